import Derived.Test.YtbkembafdhjbkaaQs
set_option linter.unusedVariables false
namespace Go.Proofs.Ytbkembafdhjbkaa
open Go.RowKit
theorem room_live (rs : List Rc) (now k : Int) : roomI (liveL now rs) now k = roomI rs now k := by rw [roomI, roomI, live_live]
/-- a row that reads so and an errno come back -/
def RecsE (rs : List Rc) (code : Int) (w : World) (e : Ending) (w' : World) : Prop := ∃ A c, e = .returned (.tuple #[.slice A rs.length c, .int .i64 code]) ∧ RecsAt w' A c rs ∧ Below w.heap.size w w'
set_option maxHeartbeats 2000000 in
theorem rput_walk (rs : List Rc) (A : Option Addr) (c : Nat) (now : Int) (r : Rc) (w : World) (hr : RecsAt w A c rs) (hm : rs.length ≤ 900000) :
    Calls Try.prog 17 #[.slice A rs.length c, .int .i64 now, .agg r.arr] w (RecsE (putL rs now r) (putC rs now r) w) := by
  obtain ⟨i0, hi, hz0, hz1, hz2⟩ := info_parts info_rec
  have hb := (Below.refl w.heap.size w).alloc (Nat.le_refl _) (.cells r.arr 32)
  have hblk := Blk.new w 32 r.arr
  have HR := Lib.hid hr
  have hl1 := liveL_le now rs
  have hc0 : (w.alloc (.cells r.arr 32)).cell? ⟨w.heap.size, 0, none⟩ = some (.int .i64 r.kind) := hblk.cell 0
  obtain ⟨k, hk⟩ : ∃ k, r.kind = k := ⟨_, rfl⟩
  obtain ⟨m, hmk⟩ : ∃ m, mostI k = m := ⟨_, rfl⟩
  have cm := Lib.hid (rmost_walk k)
  rw [hk] at hc0
  rw [hmk] at cm
  clear hr
  by_cases hm0 : m = 0
  · have h0 : (m == 0) = true := by simpa using hm0
    have hcode : Hid (putC rs now r = 2) := by show _ = _; rw [putC, hk, hmk, if_pos hm0]
    have hlist : Hid (putL rs now r = rs) := by show _ = _; rw [putL, hcode.out]; rfl
    clear hm0 hmk hk
    go_enter Try.func17, Try.ntmps17
    go_wp2_with fail
    refine (cm.out _).mono ?_
    rintro _ w2 ⟨rfl, hbn⟩
    replace hb := below_next hb hbn
    clear hbn hc0
    go_wp2_with fail
    go_ret2
    exact ⟨A, c, by rw [hcode.out, hlist.out]; rfl, by rw [hlist.out]; exact HR.out.below hb, hb⟩
  · have h0 : (m == 0) = false := by simpa using hm0
    have HM0 := Lib.hid hm0
    have HMK := Lib.hid hmk
    have HK := Lib.hid hk
    clear hm0 hmk hk
    go_enter Try.func17, Try.ntmps17
    go_wp2_with fail
    refine (cm.out _).mono ?_
    rintro _ w2 ⟨rfl, hbn⟩
    have hblk2 := hblk.below hbn (by simp)
    replace hb := below_next hb hbn
    clear hbn hc0
    have cl := Lib.hid (rlive_walk rs A c now w2 (HR.out.below hb))
    go_wp2_with fail
    refine cl.out.mono ?_
    rintro _ w3 ⟨v, rfl, hown, hb1⟩
    obtain ⟨A1, c1, rfl, hr1⟩ := RecsAt.own hown (by omega)
    have hblk3 := hblk2.below hb1 (by have := hblk2.lt; omega)
    have hown1 := hown.mono hb.size
    replace hb := below_next hb hb1
    obtain ⟨ls, hls⟩ : ∃ ls, liveL now rs = ls := ⟨_, rfl⟩
    rw [hls] at hl1 hr1 hown1 ⊢
    have HLS := Lib.hid hls
    have HR1 := Lib.hid hr1
    have HO1 := Lib.hid hown1
    clear hown hown1 hr1 hb1 hblk cl hls hblk2
    obtain ⟨ky, hky⟩ : ∃ ky, r.key = ky := ⟨_, rfl⟩
    have HKY := Lib.hid hky
    have hc1 : Hid (∀ q, (w3.drewN q).cell? ⟨w.heap.size, 1, none⟩ = some (.int .i64 ky)) := fun q => by rw [← hky]; exact (hblk3.drewN q).cell 1
    clear hky
    go_wp2_with fail
    go_loopw [9] (fun iv wr => ∃ (j : Nat), j ≤ ls.length ∧ iv = .int .i64 j ∧ Hid (∀ i, i < j → ∀ x, ls[i]? = some x → (x.key == ky) = false) ∧ ∃ q, wr = w3.drewN q) (fun iv _ => ls.length - (intOf iv).toNat)
    case atStart => exact ⟨0, by omega, rfl, fun i hi => by omega, 0, rfl⟩
    case round =>
      obtain ⟨j, hj, rfl, hno, q, rfl⟩ := hrel
      by_cases hlt : j < ls.length
      · obtain ⟨ad, rfl⟩ : ∃ ad, A1 = some ad := by obtain ⟨ad, h, _⟩ := HR1.out.2.2.2 (by omega); exact ⟨ad, h⟩
        obtain ⟨x, hxk⟩ : ∃ x, ls[j]? = some x := ⟨ls[j], List.getElem?_eq_getElem hlt⟩
        obtain ⟨_, _, hx1⟩ := cell_field (rec_at (HR1.out.below (below_drewN (Below.refl w3.heap.size w3) (q + 1))).2.2 hxk)
        have hy1 := hc1.out (q + 1)
        have HXK := Lib.hid hxk
        obtain ⟨kx, hkx⟩ : ∃ kx, x.key = kx := ⟨_, rfl⟩
        rw [hkx] at hx1
        have HKX := Lib.hid hkx
        clear hkx hxk
        cases e : kx == ky
        · have hno2 : Hid (∀ i, i < j + 1 → ∀ x, ls[i]? = some x → (x.key == ky) = false) := by
            show ∀ i, i < j + 1 → _
            intro i hi x' hx'
            rcases Nat.lt_or_ge i j with h | h
            · exact hno.out i h x' hx'
            · rw [show i = j by omega, HXK.out] at hx'
              injection hx' with e1
              rw [← e1, HKX.out]; exact e
          go_wp2_with fail
          refine wp_region_held_drew (S := fun W => W.cell? ⟨(ad.add (j * 15)).block, (ad.add (j * 15)).off + 1, none⟩ = some (.int .i64 kx) ∧ W.cell? ⟨w.heap.size, 1, none⟩ = some (.int .i64 ky)) (by kernel_rfl) ⟨hx1, hy1⟩ (fun hHeld => ?_)
          first | (refine wpAnyH_take (i := 0) (v := _) rfl (by kernel_rfl) (by kernel_rfl) (by kernel_rfl) (fun _ _ _ h => h) (Or.inr ⟨?_, rfl⟩) (by assumption) ?_; rfl) | (refine wpAnyH_take (i := 0) (v := ?_) rfl (by kernel_rfl) (by kernel_rfl) (by kernel_rfl) (fun _ _ _ h => h) (Or.inl ⟨?_, ?_⟩) (by assumption) ?_; rotate_left; rfl; focus (intro w hSw; (try dsimp only at hSw); go_simp; all_goals (with_reducible rfl)))
          (try simp only [List.getElem_toArray, List.getElem_cons_zero, List.getElem_cons_succ, Act.put, List.setIfInBounds_toArray, List.set_cons_zero, List.set_cons_succ])
          first | (refine wpAnyH_take (i := 1) (v := _) rfl (by kernel_rfl) (by kernel_rfl) (by kernel_rfl) (fun _ _ _ h => h) (Or.inr ⟨?_, rfl⟩) (by assumption) ?_; rfl) | (refine wpAnyH_take (i := 1) (v := ?_) rfl (by kernel_rfl) (by kernel_rfl) (by kernel_rfl) (fun _ _ _ h => h) (Or.inl ⟨?_, ?_⟩) (by assumption) ?_; rotate_left; rfl; focus (intro w hSw; (try dsimp only at hSw); go_simp; all_goals (with_reducible rfl)))
          (try simp only [List.getElem_toArray, List.getElem_cons_zero, List.getElem_cons_succ, Act.put, List.setIfInBounds_toArray, List.set_cons_zero, List.set_cons_succ])
          first | (refine wpAnyH_take (i := 2) (v := _) rfl (by kernel_rfl) (by kernel_rfl) (by kernel_rfl) (fun _ _ _ h => h) (Or.inr ⟨?_, rfl⟩) (by assumption) ?_; rfl) | (refine wpAnyH_take (i := 2) (v := ?_) rfl (by kernel_rfl) (by kernel_rfl) (by kernel_rfl) (fun _ _ _ h => h) (Or.inl ⟨?_, ?_⟩) (by assumption) ?_; rotate_left; rfl; focus (intro w hSw; (try dsimp only at hSw); go_simp; all_goals (with_reducible rfl)))
          (try simp only [List.getElem_toArray, List.getElem_cons_zero, List.getElem_cons_succ, Act.put, List.setIfInBounds_toArray, List.set_cons_zero, List.set_cons_succ])
          first | (refine wpAnyH_take (i := 3) (v := _) rfl (by kernel_rfl) (by kernel_rfl) (by kernel_rfl) (fun _ _ _ h => h) (Or.inr ⟨?_, rfl⟩) (by assumption) ?_; rfl) | (refine wpAnyH_take (i := 3) (v := ?_) rfl (by kernel_rfl) (by kernel_rfl) (by kernel_rfl) (fun _ _ _ h => h) (Or.inl ⟨?_, ?_⟩) (by assumption) ?_; rotate_left; rfl; focus (intro w hSw; (try dsimp only at hSw); go_simp; all_goals (with_reducible rfl)))
          (try simp only [List.getElem_toArray, List.getElem_cons_zero, List.getElem_cons_succ, Act.put, List.setIfInBounds_toArray, List.set_cons_zero, List.set_cons_succ])
          first | (refine wpAnyH_take (i := 4) (v := _) rfl (by kernel_rfl) (by kernel_rfl) (by kernel_rfl) (fun _ _ _ h => h) (Or.inr ⟨?_, rfl⟩) (by assumption) ?_; rfl) | (refine wpAnyH_take (i := 4) (v := ?_) rfl (by kernel_rfl) (by kernel_rfl) (by kernel_rfl) (fun _ _ _ h => h) (Or.inl ⟨?_, ?_⟩) (by assumption) ?_; rotate_left; rfl; focus (intro w hSw; (try dsimp only at hSw); go_simp; all_goals (with_reducible rfl)))
          (try simp only [List.getElem_toArray, List.getElem_cons_zero, List.getElem_cons_succ, Act.put, List.setIfInBounds_toArray, List.set_cons_zero, List.set_cons_succ])
          first | (refine wpAnyH_take (i := 5) (v := _) rfl (by kernel_rfl) (by kernel_rfl) (by kernel_rfl) (fun _ _ _ h => h) (Or.inr ⟨?_, rfl⟩) (by assumption) ?_; rfl) | (refine wpAnyH_take (i := 5) (v := ?_) rfl (by kernel_rfl) (by kernel_rfl) (by kernel_rfl) (fun _ _ _ h => h) (Or.inl ⟨?_, ?_⟩) (by assumption) ?_; rotate_left; rfl; focus (intro w hSw; (try dsimp only at hSw); go_simp; all_goals (with_reducible rfl)))
          (try simp only [List.getElem_toArray, List.getElem_cons_zero, List.getElem_cons_succ, Act.put, List.setIfInBounds_toArray, List.set_cons_zero, List.set_cons_succ])
          first | (refine wpAnyH_take (i := 6) (v := _) rfl (by kernel_rfl) (by kernel_rfl) (by kernel_rfl) (fun _ _ _ h => h) (Or.inr ⟨?_, rfl⟩) (by assumption) ?_; rfl) | (refine wpAnyH_take (i := 6) (v := ?_) rfl (by kernel_rfl) (by kernel_rfl) (by kernel_rfl) (fun _ _ _ h => h) (Or.inl ⟨?_, ?_⟩) (by assumption) ?_; rotate_left; rfl; focus (intro w hSw; (try dsimp only at hSw); go_simp; all_goals (with_reducible rfl)))
          (try simp only [List.getElem_toArray, List.getElem_cons_zero, List.getElem_cons_succ, Act.put, List.setIfInBounds_toArray, List.set_cons_zero, List.set_cons_succ])
          first | (refine wpAnyH_take (i := 7) (v := _) rfl (by kernel_rfl) (by kernel_rfl) (by kernel_rfl) (fun _ _ _ h => h) (Or.inr ⟨?_, rfl⟩) (by assumption) ?_; rfl) | (refine wpAnyH_take (i := 7) (v := ?_) rfl (by kernel_rfl) (by kernel_rfl) (by kernel_rfl) (fun _ _ _ h => h) (Or.inl ⟨?_, ?_⟩) (by assumption) ?_; rotate_left; rfl; focus (intro w hSw; (try dsimp only at hSw); go_simp; all_goals (with_reducible rfl)))
          (try simp only [List.getElem_toArray, List.getElem_cons_zero, List.getElem_cons_succ, Act.put, List.setIfInBounds_toArray, List.set_cons_zero, List.set_cons_succ])
          refine wpAnyH_done (by kernel_rfl) ?_ _
          clear hHeld hx1 hy1
          go_wp2_with fail
          exact ⟨⟨j + 1, by omega, by go_num, hno2, q + 1, rfl⟩, by simp [intOf]; omega⟩
        · have hany : Hid ((liveL now rs).any (fun x => x.key == r.key) = true) := by
            show _ = _
            rw [HLS.out, HKY.out, List.any_eq_true]
            exact ⟨x, List.mem_of_getElem? HXK.out, by rw [HKX.out]; exact e⟩
          have hcode : Hid (putC rs now r = 6) := by show _ = _; rw [putC, HK.out, HMK.out, if_neg HM0.out, hany.out]; rfl
          have hlist : Hid (putL rs now r = rs) := by show _ = _; rw [putL, hcode.out]; rfl
          have HBQ := Lib.hid (below_drewN hb (q + 1))
          go_wp2_with fail
          refine wp_region_held_drew (S := fun W => W.cell? ⟨(ad.add (j * 15)).block, (ad.add (j * 15)).off + 1, none⟩ = some (.int .i64 kx) ∧ W.cell? ⟨w.heap.size, 1, none⟩ = some (.int .i64 ky)) (by kernel_rfl) ⟨hx1, hy1⟩ (fun hHeld => ?_)
          first | (refine wpAnyH_take (i := 0) (v := _) rfl (by kernel_rfl) (by kernel_rfl) (by kernel_rfl) (fun _ _ _ h => h) (Or.inr ⟨?_, rfl⟩) (by assumption) ?_; rfl) | (refine wpAnyH_take (i := 0) (v := ?_) rfl (by kernel_rfl) (by kernel_rfl) (by kernel_rfl) (fun _ _ _ h => h) (Or.inl ⟨?_, ?_⟩) (by assumption) ?_; rotate_left; rfl; focus (intro w hSw; (try dsimp only at hSw); go_simp; all_goals (with_reducible rfl)))
          (try simp only [List.getElem_toArray, List.getElem_cons_zero, List.getElem_cons_succ, Act.put, List.setIfInBounds_toArray, List.set_cons_zero, List.set_cons_succ])
          first | (refine wpAnyH_take (i := 1) (v := _) rfl (by kernel_rfl) (by kernel_rfl) (by kernel_rfl) (fun _ _ _ h => h) (Or.inr ⟨?_, rfl⟩) (by assumption) ?_; rfl) | (refine wpAnyH_take (i := 1) (v := ?_) rfl (by kernel_rfl) (by kernel_rfl) (by kernel_rfl) (fun _ _ _ h => h) (Or.inl ⟨?_, ?_⟩) (by assumption) ?_; rotate_left; rfl; focus (intro w hSw; (try dsimp only at hSw); go_simp; all_goals (with_reducible rfl)))
          (try simp only [List.getElem_toArray, List.getElem_cons_zero, List.getElem_cons_succ, Act.put, List.setIfInBounds_toArray, List.set_cons_zero, List.set_cons_succ])
          first | (refine wpAnyH_take (i := 2) (v := _) rfl (by kernel_rfl) (by kernel_rfl) (by kernel_rfl) (fun _ _ _ h => h) (Or.inr ⟨?_, rfl⟩) (by assumption) ?_; rfl) | (refine wpAnyH_take (i := 2) (v := ?_) rfl (by kernel_rfl) (by kernel_rfl) (by kernel_rfl) (fun _ _ _ h => h) (Or.inl ⟨?_, ?_⟩) (by assumption) ?_; rotate_left; rfl; focus (intro w hSw; (try dsimp only at hSw); go_simp; all_goals (with_reducible rfl)))
          (try simp only [List.getElem_toArray, List.getElem_cons_zero, List.getElem_cons_succ, Act.put, List.setIfInBounds_toArray, List.set_cons_zero, List.set_cons_succ])
          first | (refine wpAnyH_take (i := 3) (v := _) rfl (by kernel_rfl) (by kernel_rfl) (by kernel_rfl) (fun _ _ _ h => h) (Or.inr ⟨?_, rfl⟩) (by assumption) ?_; rfl) | (refine wpAnyH_take (i := 3) (v := ?_) rfl (by kernel_rfl) (by kernel_rfl) (by kernel_rfl) (fun _ _ _ h => h) (Or.inl ⟨?_, ?_⟩) (by assumption) ?_; rotate_left; rfl; focus (intro w hSw; (try dsimp only at hSw); go_simp; all_goals (with_reducible rfl)))
          (try simp only [List.getElem_toArray, List.getElem_cons_zero, List.getElem_cons_succ, Act.put, List.setIfInBounds_toArray, List.set_cons_zero, List.set_cons_succ])
          first | (refine wpAnyH_take (i := 4) (v := _) rfl (by kernel_rfl) (by kernel_rfl) (by kernel_rfl) (fun _ _ _ h => h) (Or.inr ⟨?_, rfl⟩) (by assumption) ?_; rfl) | (refine wpAnyH_take (i := 4) (v := ?_) rfl (by kernel_rfl) (by kernel_rfl) (by kernel_rfl) (fun _ _ _ h => h) (Or.inl ⟨?_, ?_⟩) (by assumption) ?_; rotate_left; rfl; focus (intro w hSw; (try dsimp only at hSw); go_simp; all_goals (with_reducible rfl)))
          (try simp only [List.getElem_toArray, List.getElem_cons_zero, List.getElem_cons_succ, Act.put, List.setIfInBounds_toArray, List.set_cons_zero, List.set_cons_succ])
          first | (refine wpAnyH_take (i := 5) (v := _) rfl (by kernel_rfl) (by kernel_rfl) (by kernel_rfl) (fun _ _ _ h => h) (Or.inr ⟨?_, rfl⟩) (by assumption) ?_; rfl) | (refine wpAnyH_take (i := 5) (v := ?_) rfl (by kernel_rfl) (by kernel_rfl) (by kernel_rfl) (fun _ _ _ h => h) (Or.inl ⟨?_, ?_⟩) (by assumption) ?_; rotate_left; rfl; focus (intro w hSw; (try dsimp only at hSw); go_simp; all_goals (with_reducible rfl)))
          (try simp only [List.getElem_toArray, List.getElem_cons_zero, List.getElem_cons_succ, Act.put, List.setIfInBounds_toArray, List.set_cons_zero, List.set_cons_succ])
          first | (refine wpAnyH_take (i := 6) (v := _) rfl (by kernel_rfl) (by kernel_rfl) (by kernel_rfl) (fun _ _ _ h => h) (Or.inr ⟨?_, rfl⟩) (by assumption) ?_; rfl) | (refine wpAnyH_take (i := 6) (v := ?_) rfl (by kernel_rfl) (by kernel_rfl) (by kernel_rfl) (fun _ _ _ h => h) (Or.inl ⟨?_, ?_⟩) (by assumption) ?_; rotate_left; rfl; focus (intro w hSw; (try dsimp only at hSw); go_simp; all_goals (with_reducible rfl)))
          (try simp only [List.getElem_toArray, List.getElem_cons_zero, List.getElem_cons_succ, Act.put, List.setIfInBounds_toArray, List.set_cons_zero, List.set_cons_succ])
          first | (refine wpAnyH_take (i := 7) (v := _) rfl (by kernel_rfl) (by kernel_rfl) (by kernel_rfl) (fun _ _ _ h => h) (Or.inr ⟨?_, rfl⟩) (by assumption) ?_; rfl) | (refine wpAnyH_take (i := 7) (v := ?_) rfl (by kernel_rfl) (by kernel_rfl) (by kernel_rfl) (fun _ _ _ h => h) (Or.inl ⟨?_, ?_⟩) (by assumption) ?_; rotate_left; rfl; focus (intro w hSw; (try dsimp only at hSw); go_simp; all_goals (with_reducible rfl)))
          (try simp only [List.getElem_toArray, List.getElem_cons_zero, List.getElem_cons_succ, Act.put, List.setIfInBounds_toArray, List.set_cons_zero, List.set_cons_succ])
          refine wpAnyH_done (by kernel_rfl) ?_ _
          clear hHeld hx1 hy1
          go_wp2_with fail
          go_ret2
          exact ⟨A, c, by rw [hcode.out, hlist.out]; rfl, by rw [hlist.out]; exact HR.out.below HBQ.out, HBQ.out⟩
      · obtain rfl : j = ls.length := by omega
        have hany : Hid ((liveL now rs).any (fun x => x.key == r.key) = false) := by
          show _ = _
          rw [HLS.out, HKY.out, List.any_eq_false]
          intro x hx
          obtain ⟨i, hi, e⟩ := List.getElem_of_mem hx
          have := hno.out i hi x (by rw [List.getElem?_eq_getElem hi, e])
          simp [this]
        have hc0 : (w3.drewN q).cell? ⟨w.heap.size, 0, none⟩ = some (.int .i64 k) := by rw [← HK.out]; exact (hblk3.drewN q).cell 0
        have cr := Lib.hid (rroom_walk rs A c now k (w3.drewN q) (HR.out.below (below_drewN hb q)))
        have HBQ := Lib.hid (below_drewN hb q)
        have hblkq := hblk3.drewN q
        have hownq := Lib.hid (ownsRow_below HO1.out (below_drewN (Below.refl w3.heap.size w3) q))
        obtain ⟨t, ht⟩ : ∃ t, roomI rs now k = t := ⟨_, rfl⟩
        rw [ht] at cr
        have HT := Lib.hid ht
        clear ht hb hblk3
        cases e : t == 0
        · go_wp2_with fail
          refine cr.out.mono ?_
          rintro _ w4 ⟨rfl, hbn⟩
          have hblk4 := hblkq.below hbn (by have := hblkq.lt; omega)
          have hown4 := ownsRow_below hownq.out hbn
          have hb := below_next HBQ.out hbn
          have hrd := reads_new w4 32 r.cells
          have h15 := r.sz
          clear hbn hc0 cr
          go_wp2_with (first
            | (refine wpList_load_rec rfl _ rfl ⟨w.heap.size, 0, none⟩ rfl r (blk_rec hblk4) ?_)
            | (at_builtin; rw [fold_rec]; refine wpList_append_any (w4.alloc (.cells r.arr 32)) rfl (.tmp 40) (.tmp 42) 24 rfl w.heap.size 32 i0 (.agg Rc.none.arr) 15 176 Try.underlying24 hi hz0 hz1 hz2 rfl (by decide) (.slice A1 ls.length c1) ls.length (recCells ls) rfl (hown4.alloc _) (w4.heap.size + 1) _ 1 1 r.cells rfl hrd (fun u hu => recCells_ones [r] u (by simpa [recCells] using hu)) (by unfold maxLen; omega) (by omega) (by have := hb.size; simp; omega) ?_; intro v' w5 hown5 hg5 hat5))
          have hcode : Hid (putC rs now r = 0) := by show _ = _; rw [putC, HK.out, HMK.out, if_neg HM0.out, hany.out, room_live, HT.out, if_neg (by simp), if_neg (by simpa using e)]
          have hlist : Hid (putL rs now r = ls ++ [r]) := by show _ = _; rw [putL, hcode.out, if_pos rfl, HLS.out]
          have hown6 := rec_next hown5 rfl
          obtain ⟨A6, c6, rfl, hr6⟩ := RecsAt.own hown6 (by simp; omega)
          go_ret2
          exact ⟨A6, c6, by rw [hcode.out, hlist.out]; rfl, by rw [hlist.out]; exact hr6, (hb.alloc hb.size _).grown hg5 (by have := hb.size; simp; omega) (fun g hg => by have := hown4.lt g hg; omega)⟩
        · have hcode : Hid (putC rs now r = 16) := by show _ = _; rw [putC, HK.out, HMK.out, if_neg HM0.out, hany.out, room_live, HT.out, if_neg (by simp), if_pos (by simpa using e)]
          have hlist : Hid (putL rs now r = rs) := by show _ = _; rw [putL, hcode.out]; rfl
          go_wp2_with fail
          refine cr.out.mono ?_
          rintro _ w4 ⟨rfl, hbn⟩
          have hb := below_next HBQ.out hbn
          go_wp2_with fail
          go_ret2
          exact ⟨A, c, by rw [hcode.out, hlist.out]; rfl, by rw [hlist.out]; exact HR.out.below hb, hb⟩
end Go.Proofs.Ytbkembafdhjbkaa

import Derived.Test.YtbkembafdhjbkaaQf
set_option linter.unusedVariables false
namespace Go.Proofs.Ytbkembafdhjbkaa
open Go.RowKit
def rk0 : Rc := ⟨4, 3, 5, false, 0, 0, 0, 0, ⟨#[]⟩, ⟨#[]⟩, ⟨#[]⟩, ⟨#[]⟩, ⟨#[]⟩, ⟨#[]⟩, ⟨#[]⟩⟩
theorem recsAt_nil (w : World) : RecsAt w none 0 [] := ⟨by simp, by simp, Reads.none_⟩
set_option maxHeartbeats 2000000 in
theorem known19_walk (w : World) : Calls Try.prog 7 #[] w fun e w' => e = .returned (.bool true) ∧ Below w.heap.size w w' := by
  have cP := Lib.hid (fun w => put_walk [] none 0 0 rk0 w (recsAt_nil w) (by simp))
  rw [show putC [] 0 rk0 = 0 by kernel_rfl, show putL [] 0 rk0 = [rk0] by kernel_rfl] at cP
  have c4 := Lib.hid (most_walk 4)
  have d4 := Lib.hid (life_walk 4)
  rw [show mostI 4 = 6 by kernel_rfl] at c4
  rw [show lifeI 4 = 40 by kernel_rfl] at d4
  have hb := Below.refl w.heap.size w
  have h1 := rk0.at1
  go_enter Try.func7, Try.ntmps7
  go_wp2_with fail
  refine (cP.out _).mono ?_
  rintro _ w1 ⟨v, rfl, hown, hbn⟩
  obtain ⟨A, c, rfl, hr⟩ := RecsAt.own hown (by simp)
  replace hb := below_next hb hbn
  have cF := Lib.hid (fun w h now => find_walk [rk0] A c now 4 3 w h)
  have cR := Lib.hid (fun w h => room_walk [rk0] A c 0 4 w h)
  rw [show roomI [rk0] 0 4 = 5 by kernel_rfl] at cR
  have cF1 := Lib.hid (fun w h => cF.out w h 4)
  have cF2 := Lib.hid (fun w h => cF.out w h 5)
  rw [show findO [rk0] 4 4 3 = some rk0 by kernel_rfl] at cF1
  rw [show findO [rk0] 5 4 3 = none by kernel_rfl] at cF2
  clear hown hbn cF cP
  go_wp2_with fail
  refine (cF1.out _ hr).mono ?_
  rintro _ w2 ⟨rfl, hbn⟩
  have hr2 := hr.below hbn
  replace hb := below_next hb hbn
  clear hbn hr
  have hb3 := hb.alloc hb.size (.cells rk0.arr 32)
  have hr3 := hr2.below ((Below.refl w2.heap.size w2).alloc (Nat.le_refl _) (.cells rk0.arr 32))
  have hblk := Blk.new w2 32 rk0.arr
  go_wp2_with (refine wpList_store_fresh w2 rfl 32 _ _ rfl _ rk0.arr _ rfl rfl rfl rec_size rk0.ones ?_)
  refine (cF2.out _ hr3).mono ?_
  rintro _ w4 ⟨rfl, hbn⟩
  have hr4 := hr3.below hbn
  replace hb := below_next hb3 hbn
  have hblk4 := hblk.below hbn (by simp)
  clear hbn hr3 hb3 hr2 hblk
  have hb5 := hb.alloc hb.size (.cells Rc.none.arr 32)
  have hr5 := hr4.below ((Below.refl w4.heap.size w4).alloc (Nat.le_refl _) (.cells Rc.none.arr 32))
  have hcell := (hblk4.alloc (.cells Rc.none.arr 32)).cell 1
  rw [h1] at hcell
  go_wp2_with (refine wpList_store_fresh w4 rfl 32 _ _ rfl _ Rc.none.arr _ rfl rfl rfl rec_size Rc.none.ones ?_)
  refine (c4.out _).mono ?_
  rintro _ w6 ⟨rfl, hbn⟩
  have hr6 := hr5.below hbn
  replace hb := below_next hb5 hbn
  clear hbn hr5 hb5 hcell hblk4 hr4
  go_wp2_with fail
  refine (d4.out _).mono ?_
  rintro _ w7 ⟨rfl, hbn⟩
  have hr7 := hr6.below hbn
  replace hb := below_next hb hbn
  clear hbn hr6
  go_wp2_with fail
  refine (cR.out _ hr7).mono ?_
  rintro _ w8 ⟨rfl, hbn⟩
  replace hb := below_next hb hbn
  go_wp2_with fail
  go_ret
  exact ⟨rfl, hb⟩
end Go.Proofs.Ytbkembafdhjbkaa

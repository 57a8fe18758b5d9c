/- countersignref11.Same of one address in two places; countersignlaw11.same. No condition of its own. -/
import Derived.Test.YtolfcpbcccbmmaaGreatDoorUn
set_option linter.unusedVariables false
set_option linter.unusedSimpArgs false
set_option maxRecDepth 20000
namespace Go.Proofs.YtolfcpbcccbmmaaGreatDoor
open Go.RowKit Pc
theorem lsame_walk (fs : List Fl) (A B : Option Addr) (c d : Nat) (w : World) (hr : FsAt w A c fs) (hs : FsAt w B d fs) :
    Calls Tryz.prog 11 #[.slice A fs.length c, .slice B fs.length d] w fun e w' => e = .returned (.bool true) ∧ ∃ n, w' = w.drewN n := by
  have cs := Lib.hid (same_walk fs fs A B c d w hr hs)
  rw [decide_eq_true rfl] at cs
  go_enter Tryz.func11, Tryz.ntmps11
  go_wp2_with fail
  refine (cs.out).mono ?_
  rintro _ w1 ⟨rfl, q, rfl⟩
  go_wp2_with fail
  go_ret
  exact ⟨rfl, q, rfl⟩
set_option maxHeartbeats 4000000 in
theorem usame_walk (u : Ur) (A B : Option Addr) (c d : Nat) (w : World) (hr : FsAt w A c u.q) (hs : FsAt w B d u.q) :
    Calls Tryz.prog 10 #[.agg (u.arr A c), .agg (u.arr B d)] w fun e w' => e = .returned (.bool true) ∧ Below w.heap.size w w' := by
  have hb1 := (Below.refl w.heap.size w).alloc (Nat.le_refl _) (.cells (u.arr A c) 28)
  have hb2 := hb1.alloc hb1.size (.cells (u.arr B d) 28)
  have hK1 := (Blk.new w 28 (u.arr A c)).alloc (.cells (u.arr B d) 28)
  have hK2 := Blk.new (w.alloc (.cells (u.arr A c) 28)) 28 (u.arr B d)
  rw [show (w.alloc (.cells (u.arr A c) 28)).heap.size = w.heap.size + 1 by simp] at hK2
  obtain ⟨_, ha0, ha1, ha2⟩ := boxU hK1
  obtain ⟨_, hc0, hc1, hc2⟩ := boxU hK2
  have cs := Lib.hid (same_walk u.q u.q A B c d _ (hr.below hb2) (hs.below hb2))
  rw [decide_eq_true rfl] at cs
  have HB := Lib.hid hb2
  have e1 : (u.h == u.h) = true := by simp
  have e2 : (u.p == u.p) = true := by simp
  clear hb1 hb2 hK1 hK2
  go_enter Tryz.func10, Tryz.ntmps10
  go_wp2_with fail
  refine cs.out.mono ?_
  rintro _ w2 ⟨rfl, n, rfl⟩
  go_wp2_with fail
  go_ret
  exact ⟨rfl, below_drewN HB.out n⟩
end Go.Proofs.YtolfcpbcccbmmaaGreatDoor

import Derived.Test.YtbkembafdhjbkaaQb
set_option linter.unusedVariables false
namespace Go.Proofs.Ytbkembafdhjbkaa
open Go.RowKit
def kindL (kind : Int) (rs : List Rc) : List Rc := rs.filter fun r => r.kind == kind
def roomI (rs : List Rc) (now kind : Int) : Int := max (mostI kind - ((kindL kind (liveL now rs)).length : Int)) 0
theorem mostI_le (k : Int) : 0 ≤ mostI k ∧ mostI k ≤ 12 := by
  unfold mostI
  repeat (split; · omega)
  omega
theorem liveL_le (now : Int) (rs : List Rc) : (liveL now rs).length ≤ rs.length := List.length_filter_le _ _
theorem kindL_le (k : Int) (rs : List Rc) : (kindL k rs).length ≤ rs.length := List.length_filter_le _ _
set_option maxHeartbeats 1000000 in
theorem room_walk (rs : List Rc) (A : Option Addr) (c : Nat) (now kind : Int) (w : World) (hr : RecsAt w A c rs) :
    Calls Try.prog 11 #[.slice A rs.length c, .int .i64 now, .int .i64 kind] w fun e w' => e = .returned (.int .i64 (roomI rs now kind)) ∧ Below w.heap.size w w' := by
  have hmf : ∀ (fn : Fn) (first cap : Array Value) (w : World), (Instr.makeFunc fn first cap).run Try.prog w = .ok (.func fn first cap) w := fun _ _ _ _ => rfl
  have hb := (Below.refl w.heap.size w).alloc (Nat.le_refl _) (.cells #[.int .i64 kind] 3)
  have hblk := Blk.new w 3 #[.int .i64 kind]
  have hl1 := liveL_le now rs
  have hl2 := kindL_le kind (liveL now rs)
  have hmm := mostI_le kind
  have hm := hr.2.1
  have cl := Lib.hid (live_walk rs A c now _ (hr.below hb))
  clear hr
  go_enter Try.func11, Try.ntmps11
  go_wp2_with fail
  refine cl.out.mono ?_
  rintro _ w1 ⟨v, rfl, hown, hb1⟩
  obtain ⟨A1, c1, rfl, hr1⟩ := RecsAt.own hown (by omega)
  have hblk1 := hblk.below hb1 (by simp)
  replace hb := below_next hb hb1
  have ck := Lib.hid (keep_walk _ _ _ w1 (room1_walk w.heap.size kind _ (hblk1.cell 0)) _ A1 c1 hr1.2.2 hr1.1 hr1.2.1)
  clear hown hb1 hblk hr1
  go_wp2_with fail
  refine ck.out.mono ?_
  rintro _ w2 ⟨v2, rfl, hown2, hb2⟩
  rw [show (List.filter (fun r => r.kind == kind) (liveL now rs)) = kindL kind (liveL now rs) from rfl] at hown2
  obtain ⟨A2, c2, rfl, hr2⟩ := RecsAt.own hown2 (by omega)
  have hblk2 := hblk1.below hb2 (by have := hblk1.lt; omega)
  replace hb := below_next hb hb2
  have hcell := hblk2.cell 0
  clear hown2 hb2 hblk1 hr2 ck hblk2
  go_wp2_with fail
  refine (most_walk kind w2).mono ?_
  rintro _ w3 ⟨rfl, hbn⟩
  replace hb := below_next hb hbn
  obtain ⟨n, hn⟩ : ∃ n, (kindL kind (liveL now rs)).length = n := ⟨_, rfl⟩
  obtain ⟨m, hmq⟩ : ∃ m, mostI kind = m := ⟨_, rfl⟩
  have hv : Hid (roomI rs now kind = max (m - (n : Int)) 0) := by show _ = _; rw [roomI, hn, hmq]
  rw [hn, hmq]
  rw [hn] at hl2
  rw [hmq] at hmm
  clear hbn hn hmq hcell
  go_wp2_with fail
  go_ret
  exact ⟨by rw [hv.out]; rfl, hb⟩
end Go.Proofs.Ytbkembafdhjbkaa

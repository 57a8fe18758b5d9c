import Derived.Test.YtbkembafdhjbkaaQd
set_option linter.unusedVariables false
namespace Go.Proofs.Ytbkembafdhjbkaa
open Go.RowKit
def isAt (kind key : Int) (r : Rc) : Bool := r.kind == kind && r.key == key
set_option maxHeartbeats 1000000 in
theorem at_walk (rs : List Rc) (A : Option Addr) (c : Nat) (kind key : Int) (w : World) (hr : RecsAt w A c rs) :
    Calls Try.prog 42 #[.slice A rs.length c, .int .i64 kind, .int .i64 key] w fun e w' => e = .returned (.int .i64 (idxI (isAt kind key) rs)) ∧ Below w.heap.size w w' := by
  have hmf : ∀ (fn : Fn) (first cap : Array Value) (w : World), (Instr.makeFunc fn first cap).run Try.prog w = .ok (.func fn first cap) w := fun _ _ _ _ => rfl
  have hb1 := (Below.refl w.heap.size w).alloc (Nat.le_refl _) (.cells #[.int .i64 kind] 3)
  have hb := hb1.alloc hb1.size (.cells #[.int .i64 key] 3)
  have h1 := ((Blk.new w 3 #[.int .i64 kind]).alloc (.cells #[.int .i64 key] 3)).cell 0
  have h2 : ((w.alloc (.cells #[.int .i64 kind] 3)).alloc (.cells #[.int .i64 key] 3)).cell? ⟨w.heap.size + 1, 0, none⟩ = some (.int .i64 key) := by simp
  have ci := Lib.hid (index_walk _ _ _ ((w.alloc (.cells #[.int .i64 kind] 3)).alloc (.cells #[.int .i64 key] 3)) (at1_walk _ _ kind key _ h1 h2) rs A c (hr.below hb))
  clear h1 h2
  go_enter Try.func42, Try.ntmps42
  go_wp2_with fail
  refine ci.out.mono ?_
  rintro _ w1 ⟨rfl, hbn⟩
  go_wp2_with fail
  go_ret
  exact ⟨rfl, below_next hb hbn⟩
def putC (rs : List Rc) (now : Int) (r : Rc) : Int :=
  if mostI r.kind = 0 then 2 else if (liveL now rs).any (fun x => x.key == r.key) then 6 else if roomI (liveL now rs) now r.kind = 0 then 16 else 0
def putL (rs : List Rc) (now : Int) (r : Rc) : List Rc := if putC rs now r = 0 then liveL now rs ++ [r] else rs
/-- an own row and an errno come back -/
def OwnRecE (rs : List Rc) (code : Int) (w : World) (e : Ending) (w' : World) : Prop := ∃ v, e = .returned (.tuple #[v, .int .i64 code]) ∧ w'.ownsRow w.heap.size 32 15 v rs.length (recCells rs) ∧ Below w.heap.size w w'
set_option maxHeartbeats 2000000 in
theorem put_walk (rs : List Rc) (A : Option Addr) (c : Nat) (now : Int) (r : Rc) (w : World) (hr : RecsAt w A c rs) (hm : rs.length ≤ 900000) :
    Calls Try.prog 10 #[.slice A rs.length c, .int .i64 now, .agg r.arr] w (OwnRecE (putL rs now r) (putC rs now r) w) := by
  have hmf : ∀ (fn : Fn) (first cap : Array Value) (w : World), (Instr.makeFunc fn first cap).run Try.prog w = .ok (.func fn first cap) w := fun _ _ _ _ => rfl
  obtain ⟨i0, hi, hz0, hz1, hz2⟩ := info_parts info_rec
  have hb := (Below.refl w.heap.size w).alloc (Nat.le_refl _) (.cells r.arr 32)
  have hblk := Blk.new w 32 r.arr
  have HR := Lib.hid hr
  have hl1 := liveL_le now rs
  have cl := Lib.hid (live_walk rs A c now _ (hr.below hb))
  clear hr
  go_enter Try.func10, Try.ntmps10
  go_wp2_with fail
  refine cl.out.mono ?_
  rintro _ w1 ⟨v, rfl, hown, hb1⟩
  obtain ⟨A1, c1, rfl, hr1⟩ := RecsAt.own hown (by omega)
  have hblk1 := hblk.below hb1 (by simp)
  have hown1 := hown.mono hb.size
  replace hb := below_next hb hb1
  clear hown hb1 hblk cl
  have hc0 : w1.cell? ⟨w.heap.size, 0, none⟩ = some (.int .i64 r.kind) := hblk1.cell 0
  obtain ⟨k, hk⟩ : ∃ k, r.kind = k := ⟨_, rfl⟩
  obtain ⟨m, hmk⟩ : ∃ m, mostI k = m := ⟨_, rfl⟩
  have cm := Lib.hid (most_walk k)
  rw [hk] at hc0
  rw [hmk] at cm
  by_cases hm0 : m = 0
  · have h0 : (m == 0) = true := by simpa using hm0
    have hcode : Hid (putC rs now r = 2) := by show _ = _; rw [putC, hk, hmk, if_pos hm0]
    have hlist : Hid (putL rs now r = rs) := by show _ = _; rw [putL, hcode.out]; rfl
    have HMK := Lib.hid hm0
    clear hm0 hmk hk
    go_wp2_with fail
    refine (cm.out _).mono ?_
    rintro _ w2 ⟨rfl, hbn⟩
    replace hb := below_next hb hbn
    clear hbn hc0
    go_wp2_with fail
    refine (clone_walk rs A c _ (HR.out.below hb)).mono ?_
    rintro _ w3 ⟨v3, rfl, hown3, hb3⟩
    go_wp2_with fail
    go_ret2
    exact ⟨v3, by rw [hcode.out]; rfl, by rw [hlist.out]; exact hown3.mono hb.size, below_next hb hb3⟩
  · have h0 : (m == 0) = false := by simpa using hm0
    have HM0 := Lib.hid hm0
    have HMK := Lib.hid hmk
    have HK := Lib.hid hk
    clear hm0 hmk hk
    go_wp2_with fail
    refine (cm.out _).mono ?_
    rintro _ w2 ⟨rfl, hbn⟩
    have hblk2 := hblk1.below hbn (by have := hblk1.lt; omega)
    have hown2 := ownsRow_below hown1 hbn
    have hr2 := hr1.below hbn
    replace hb := below_next hb hbn
    clear hbn hc0 hblk1 hown1 hr1
    have cc := Lib.hid (contains_walk _ _ _ w2 (put1_walk w.heap.size r.key w2 (hblk2.cell 1)) _ A1 c1 hr2)
    obtain ⟨t, ht⟩ : ∃ t, (liveL now rs).any (fun x => x.key == r.key) = t := ⟨_, rfl⟩
    rw [ht] at cc
    have HT := Lib.hid ht
    clear ht
    cases t
    · go_wp2_with fail
      refine cc.out.mono ?_
      rintro _ w3 ⟨rfl, hbn⟩
      have hblk3 := hblk2.below hbn (by have := hblk2.lt; omega)
      have hown3 := ownsRow_below hown2 hbn
      have hr3 := hr2.below hbn
      replace hb := below_next hb hbn
      have hc3 : w3.cell? ⟨w.heap.size, 0, none⟩ = some (.int .i64 k) := by rw [← HK.out]; exact hblk3.cell 0
      have cr := Lib.hid (room_walk _ A1 c1 now k w3 hr3)
      obtain ⟨q, hq⟩ : ∃ q, roomI (liveL now rs) now k = q := ⟨_, rfl⟩
      rw [hq] at cr
      clear hbn hblk2 hown2 hr2 cc hr3
      by_cases hq0 : q = 0
      · have h0' : (q == 0) = true := by simpa using hq0
        have hcode : Hid (putC rs now r = 16) := by show _ = _; rw [putC, HK.out, HMK.out, if_neg HM0.out, HT.out, hq, if_neg (by simp), if_pos hq0]
        have hlist : Hid (putL rs now r = rs) := by show _ = _; rw [putL, hcode.out]; rfl
        clear hq0 hq
        go_wp2_with fail
        refine cr.out.mono ?_
        rintro _ w4 ⟨rfl, hbn⟩
        replace hb := below_next hb hbn
        clear hbn hc3
        go_wp2_with fail
        refine (clone_walk rs A c _ (HR.out.below hb)).mono ?_
        rintro _ w5 ⟨v3, rfl, hown4, hb3⟩
        go_wp2_with fail
        go_ret2
        exact ⟨v3, by rw [hcode.out]; rfl, by rw [hlist.out]; exact hown4.mono hb.size, below_next hb hb3⟩
      · have h0' : (q == 0) = false := by simpa using hq0
        have hcode : Hid (putC rs now r = 0) := by show _ = _; rw [putC, HK.out, HMK.out, if_neg HM0.out, HT.out, hq, if_neg (by simp), if_neg hq0]
        have hlist : Hid (putL rs now r = liveL now rs ++ [r]) := by show _ = _; rw [putL, hcode.out, if_pos rfl]
        clear hq0 hq
        go_wp2_with fail
        refine cr.out.mono ?_
        rintro _ w4 ⟨rfl, hbn⟩
        have hblk4 := hblk3.below hbn (by have := hblk3.lt; omega)
        have hown4 := ownsRow_below hown3 hbn
        replace hb := below_next hb hbn
        have hrd := reads_new w4 32 r.cells
        have h15 := r.sz
        clear hbn hc3 hblk3 hown3 cr
        go_wp2_with (first
          | (refine wpList_load_rec rfl _ rfl ⟨w.heap.size, 0, none⟩ rfl r (blk_rec hblk4) ?_)
          | (at_builtin; rw [fold_rec]; refine wpList_append_any (w4.alloc (.cells r.arr 32)) rfl (.tmp 34) (.tmp 36) 24 rfl w.heap.size 32 i0 (.agg Rc.none.arr) 15 176 Try.underlying24 hi hz0 hz1 hz2 rfl (by decide) (.slice A1 (liveL now rs).length c1) (liveL now rs).length (recCells (liveL now rs)) rfl (hown4.alloc _) (w4.heap.size + 1) _ 1 1 r.cells rfl hrd (fun u hu => recCells_ones [r] u (by simpa [recCells] using hu)) (by unfold maxLen; omega) (by omega) (by have := hb.size; simp; omega) ?_; intro v' w5 hown5 hg5 hat5))
        go_ret2
        exact ⟨v', by rw [hcode.out]; rfl, by rw [hlist.out]; exact rec_next hown5 rfl, (hb.alloc hb.size _).grown hg5 (by have := hb.size; simp; omega) (fun g hg => by have := hown4.lt g hg; omega)⟩
    · have hcode : Hid (putC rs now r = 6) := by show _ = _; rw [putC, HK.out, HMK.out, if_neg HM0.out, HT.out]; rfl
      have hlist : Hid (putL rs now r = rs) := by show _ = _; rw [putL, hcode.out]; rfl
      go_wp2_with fail
      refine cc.out.mono ?_
      rintro _ w3 ⟨rfl, hbn⟩
      replace hb := below_next hb hbn
      clear hbn
      go_wp2_with fail
      refine (clone_walk rs A c _ (HR.out.below hb)).mono ?_
      rintro _ w4 ⟨v3, rfl, hown3, hb3⟩
      go_wp2_with fail
      go_ret2
      exact ⟨v3, by rw [hcode.out]; rfl, by rw [hlist.out]; exact hown3.mono hb.size, below_next hb hb3⟩
end Go.Proofs.Ytbkembafdhjbkaa

import Derived.Test.YtbkembafdhjbkaaQq
set_option linter.unusedVariables false
namespace Go.Proofs.Ytbkembafdhjbkaa
open Go.RowKit
set_option maxHeartbeats 1000000 in
theorem rmost_walk (k : Int) (w : World) : Calls Try.prog 28 #[.int .i64 k] w fun e w' => e = .returned (.int .i64 (mostI k)) ∧ Below w.heap.size w w' := by
  have hb := Below.refl w.heap.size w
  by_cases h : k = 1 ∨ k = 2 ∨ k = 3 ∨ k = 4 ∨ k = 5 ∨ k = 6
  · rcases h with rfl | rfl | rfl | rfl | rfl | rfl
    all_goals
      go_enter Try.func28, Try.ntmps28
      go_wp2_with fail
      go_ret
      exact ⟨rfl, hb.alloc (Nat.le_refl _) _⟩
  · have hv : Hid (mostI k = 0) := by
      show _ = _
      unfold mostI
      repeat (rw [if_neg (by omega)])
    by_cases h1 : k < 1
    · clear h
      go_enter Try.func28, Try.ntmps28
      go_wp2_with fail
      go_ret
      exact ⟨by rw [hv.out]; rfl, hb⟩
    · have h6 : 6 < k := by omega
      clear h
      go_enter Try.func28, Try.ntmps28
      go_wp2_with fail
      go_ret
      exact ⟨by rw [hv.out]; rfl, hb⟩
set_option maxHeartbeats 1000000 in
theorem rlife_walk (k : Int) (w : World) : Calls Try.prog 30 #[.int .i64 k] w fun e w' => e = .returned (.int .i64 (lifeI k)) ∧ Below w.heap.size w w' := by
  have hb := Below.refl w.heap.size w
  by_cases h : k = 1 ∨ k = 2 ∨ k = 3 ∨ k = 4 ∨ k = 5 ∨ k = 6
  · rcases h with rfl | rfl | rfl | rfl | rfl | rfl
    all_goals
      go_enter Try.func30, Try.ntmps30
      go_wp2_with fail
      go_ret
      exact ⟨rfl, hb.alloc (Nat.le_refl _) _⟩
  · have hv : Hid (lifeI k = 0) := by
      show _ = _
      unfold lifeI
      repeat (rw [if_neg (by omega)])
    by_cases h1 : k < 1
    · clear h
      go_enter Try.func30, Try.ntmps30
      go_wp2_with fail
      go_ret
      exact ⟨by rw [hv.out]; rfl, hb⟩
    · have h6 : 6 < k := by omega
      clear h
      go_enter Try.func30, Try.ntmps30
      go_wp2_with fail
      go_ret
      exact ⟨by rw [hv.out]; rfl, hb⟩
set_option maxHeartbeats 1000000 in
theorem rroom_walk (rs : List Rc) (A : Option Addr) (c : Nat) (now kind : Int) (w : World) (hr : RecsAt w A c rs) :
    Calls Try.prog 26 #[.slice A rs.length c, .int .i64 now, .int .i64 kind] w fun e w' => e = .returned (.int .i64 (roomI rs now kind)) ∧ Below w.heap.size w w' := by
  have hb := Below.refl w.heap.size w
  have hl1 := liveL_le now rs
  have hmm := mostI_le kind
  have hm := hr.2.1
  have HR := Lib.hid hr
  have cm := Lib.hid (rmost_walk kind w)
  obtain ⟨m, hmq⟩ : ∃ m, mostI kind = m := ⟨_, rfl⟩
  rw [hmq] at cm hmm
  obtain ⟨ls, hls⟩ : ∃ ls, liveL now rs = ls := ⟨_, rfl⟩
  rw [hls] at hl1
  have hv : Hid (roomI rs now kind = max (m - ((kindL kind ls).length : Int)) 0) := by show _ = _; rw [roomI, hmq, hls]
  have cl := Lib.hid (fun W h => rlive_walk rs A c now W h)
  rw [hls] at cl
  clear hr hmq hls
  go_enter Try.func26, Try.ntmps26
  go_wp2_with fail
  refine cm.out.mono ?_
  rintro _ w1 ⟨rfl, hbn⟩
  replace hb := below_next hb hbn
  have cl1 := Lib.hid (cl.out w1 (HR.out.below hbn))
  clear hbn cm cl
  go_wp2_with fail
  refine cl1.out.mono ?_
  rintro _ w2 ⟨v, rfl, hown, hb1⟩
  obtain ⟨A1, c1, rfl, hr1⟩ := RecsAt.own hown (by omega)
  replace hb := below_next hb hb1
  clear hown hb1 cl1
  go_wp2_with fail
  go_loopw [7, 9] (fun nv iv wr => ∃ k : Nat, k ≤ ls.length ∧ iv = .int .i64 k ∧ nv = .int .i64 (m - ((kindL kind (ls.take k)).length : Int)) ∧ w2 = wr) (fun _ iv _ => ls.length - (intOf iv).toNat)
  case atStart => exact ⟨0, by omega, rfl, by simp [kindL], rfl⟩
  case round =>
    obtain ⟨k, hk, rfl, rfl, rfl⟩ := hrel
    by_cases hlt : k < ls.length
    · obtain ⟨ad, rfl⟩ : ∃ ad, A1 = some ad := by obtain ⟨ad, h, _⟩ := hr1.2.2.2 (by omega); exact ⟨ad, h⟩
      obtain ⟨r, hrk⟩ : ∃ r, ls[k]? = some r := ⟨ls[k], List.getElem?_eq_getElem hlt⟩
      obtain ⟨hk0, _, _⟩ := cell_field (rec_at hr1.2.2 hrk)
      have htf := take_filter (p := fun r => r.kind == kind) hrk
      have hqk := kindL_le kind (ls.take k)
      rw [List.length_take] at hqk
      obtain ⟨kd, hkd⟩ : ∃ kd, r.kind = kd := ⟨_, rfl⟩
      rw [hkd] at hk0
      have HKD := Lib.hid hkd
      have HTF := Lib.hid htf
      obtain ⟨q, hq⟩ : ∃ q, (kindL kind (ls.take k)).length = q := ⟨_, rfl⟩
      rw [hq] at hqk ⊢
      have HQ := Lib.hid hq
      have hqm : q ≤ 1000000 := by omega
      clear htf hkd hq hrk
      cases e1 : kd == kind
      · have hq2 : Hid ((kindL kind (ls.take (k + 1))).length = q) := by
          show _ = _
          rw [kindL, HTF.out, HKD.out, e1, ← HQ.out, kindL]
          simp
        go_wp2_with fail
        exact ⟨⟨k + 1, by omega, by go_num, by rw [hq2.out], trivial⟩, by simp [intOf]; omega⟩
      · have hq2 : Hid ((kindL kind (ls.take (k + 1))).length = q + 1) := by
          show _ = _
          rw [kindL, HTF.out, HKD.out, e1, ← HQ.out, kindL]
          simp
        go_wp2_with fail
        exact ⟨⟨k + 1, by omega, by go_num, by rw [hq2.out]; congr 1; omega, trivial⟩, by simp [intOf]; omega⟩
    · obtain rfl : k = ls.length := by omega
      rw [List.take_length]
      have hqk := kindL_le kind ls
      obtain ⟨q, hq⟩ : ∃ q, (kindL kind ls).length = q := ⟨_, rfl⟩
      rw [hq] at hqk hv ⊢
      clear hq
      go_wp2_with fail
      go_ret
      exact ⟨by rw [hv.out]; rfl, hb⟩
set_option maxHeartbeats 1000000 in
theorem rrevoke_walk (rs : List Rc) (A : Option Addr) (c : Nat) (f : Int) (w : World) (hr : RecsAt w A c rs) :
    Calls Try.prog 27 #[.slice A rs.length c, .int .i64 f] w (OwnRec (revokeL f rs) w) := by
  obtain ⟨i0, hi, hz0, hz1, hz2⟩ := info_parts info_rec
  obtain ⟨hc, hm, hr⟩ := hr
  go_enter Try.func27, Try.ntmps27
  go_wp2_with fail
  go_loopw [5, 6] (fun ov nv wr => ∃ k : Nat, k ≤ rs.length ∧ nv = .int .i64 k ∧ wr.ownsRow w.heap.size 32 15 ov (revokeL f (rs.take k)).length (recCells (revokeL f (rs.take k))) ∧ Below w.heap.size w wr) (fun _ nv _ => rs.length - (intOf nv).toNat)
  case atStart => exact ⟨0, by omega, rfl, World.ownsRow_nil _ _ _ _, Below.refl _ _⟩
  case round =>
    obtain ⟨k, hk, rfl, hown, hbl⟩ := hrel
    by_cases hlt : k < rs.length
    · obtain ⟨ad, rfl⟩ : ∃ ad, A = some ad := by obtain ⟨ad, h, _⟩ := hr.2 (by omega); exact ⟨ad, h⟩
      obtain ⟨r, hrk⟩ : ∃ r, rs[k]? = some r := ⟨rs[k], List.getElem?_eq_getElem hlt⟩
      have hra := rec_at (hr.below hbl) hrk
      obtain ⟨hk0, hk7, _⟩ := cell_field hra
      have HRA := Lib.hid hra
      have htf := Lib.hid (take_filter (p := keepB f) hrk)
      obtain ⟨l, hl⟩ : ∃ l, revokeL f (rs.take k) = l := ⟨_, rfl⟩
      have HL := Lib.hid hl
      have hll : l.length ≤ 1000000 := by
        rw [← hl]
        have := List.length_filter_le (keepB f) (rs.take k)
        rw [List.length_take] at this
        rw [revokeL_eq]
        omega
      rw [hl] at hown
      have hsz := hbl.size
      clear hra hl
      cases hp : keepB f r
      · have htf2 : Hid (revokeL f (rs.take (k + 1)) = l) := by
          show _ = _
          have := htf.out
          rw [hp] at this
          rw [revokeL_eq, this, ← HL.out, revokeL_eq]
          simp
        have hbad := keep_no hp
        obtain ⟨kd, hkd⟩ : ∃ kd, r.kind = kd := ⟨_, rfl⟩
        rw [hkd] at hk0 hbad
        obtain ⟨fm, hfm⟩ : ∃ fm, r.fam = fm := ⟨_, rfl⟩
        rw [hfm] at hk7 hbad
        clear hkd hfm hp
        obtain ⟨hb1, hb2⟩ := hbad
        have hn7 : (fm != f) = false := by rw [bne, hb2]; rfl
        cases e5 : kd == 5
        · rw [e5, Bool.false_or] at hb1
          have hn5 : (kd != 5) = true := by rw [bne, e5]; rfl
          have hn6 : (kd != 6) = false := by rw [bne, hb1]; rfl
          go_wp2_with fail
          exact ⟨⟨k + 1, by omega, by go_num, by rw [htf2.out]; exact hown, hbl⟩, by simp [intOf]; omega⟩
        · clear hb1
          have hn5 : (kd != 5) = false := by rw [bne, e5]; rfl
          go_wp2_with fail
          exact ⟨⟨k + 1, by omega, by go_num, by rw [htf2.out]; exact hown, hbl⟩, by simp [intOf]; omega⟩
      · have htf2 : Hid (revokeL f (rs.take (k + 1)) = l ++ [r]) := by
          show _ = _
          have := htf.out
          rw [hp] at this
          rw [revokeL_eq, this, ← HL.out, revokeL_eq]
          simp
        have hcase := keep_yes hp
        have h15 := r.sz
        have hrd := reads_new wr 32 r.cells
        obtain ⟨kd, hkd⟩ : ∃ kd, r.kind = kd := ⟨_, rfl⟩
        rw [hkd] at hk0 hcase
        obtain ⟨fm, hfm⟩ : ∃ fm, r.fam = fm := ⟨_, rfl⟩
        rw [hfm] at hk7 hcase
        clear hkd hfm hp
        rcases hcase with ⟨e5, e6⟩ | e7
        · have hn5 : (kd != 5) = true := by rw [bne, e5]; rfl
          have hn6 : (kd != 6) = true := by rw [bne, e6]; rfl
          go_wp2_with (first
            | (refine wpList_load_rec rfl _ rfl (ad.add (k * 15)) rfl r HRA.out ?_)
            | (at_builtin; rw [fold_rec]; refine wpList_append_any (wr.alloc (.cells r.arr 32)) rfl (.tmp 36) (.tmp 41) 24 rfl w.heap.size 32 i0 (.agg Rc.none.arr) 15 176 Try.underlying24 hi hz0 hz1 hz2 rfl (by decide) u5 l.length (recCells l) rfl (hown.alloc _) (wr.heap.size + 1) _ 1 1 r.cells rfl hrd (fun u hu => recCells_ones [r] u (by simpa [recCells] using hu)) (by unfold maxLen; omega) (by omega) (by simp; omega) ?_; intro v' w2 hown2 hg2 hat2))
          have hb3 : Below w.heap.size w w2 := (hbl.alloc hsz _).grown hg2 (by simp; omega) (fun g hg => by have := hown.lt g hg; omega)
          exact ⟨⟨k + 1, by omega, by go_num, by rw [htf2.out]; exact rec_next hown2 rfl, hb3⟩, by simp [intOf]; omega⟩
        · have hn7 : (fm != f) = true := by rw [bne, e7]; rfl
          have hcs : (kd != 5) = true ∧ (kd != 6) = true ∨ (kd != 5) = true ∧ (kd != 6) = false ∨ (kd != 5) = false := by
            cases (kd != 5) <;> cases (kd != 6) <;> simp
          rcases hcs with ⟨hn5, hn6⟩ | ⟨hn5, hn6⟩ | hn5
          all_goals
            go_wp2_with (first
              | (refine wpList_load_rec rfl _ rfl (ad.add (k * 15)) rfl r HRA.out ?_)
              | (at_builtin; rw [fold_rec]; refine wpList_append_any (wr.alloc (.cells r.arr 32)) rfl (.tmp 36) (.tmp 41) 24 rfl w.heap.size 32 i0 (.agg Rc.none.arr) 15 176 Try.underlying24 hi hz0 hz1 hz2 rfl (by decide) u5 l.length (recCells l) rfl (hown.alloc _) (wr.heap.size + 1) _ 1 1 r.cells rfl hrd (fun u hu => recCells_ones [r] u (by simpa [recCells] using hu)) (by unfold maxLen; omega) (by omega) (by simp; omega) ?_; intro v' w2 hown2 hg2 hat2))
            have hb3 : Below w.heap.size w w2 := (hbl.alloc hsz _).grown hg2 (by simp; omega) (fun g hg => by have := hown.lt g hg; omega)
            exact ⟨⟨k + 1, by omega, by go_num, by rw [htf2.out]; exact rec_next hown2 rfl, hb3⟩, by simp [intOf]; omega⟩
    · obtain rfl : k = rs.length := by omega
      rw [List.take_length] at hown
      go_wp2_with fail
      go_ret
      exact ⟨_, rfl, hown, hbl⟩
end Go.Proofs.Ytbkembafdhjbkaa

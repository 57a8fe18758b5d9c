import Derived.Test.YtbkembafdhjbkaaQo
import Derived.Test.YtbkembafdhjbkaaQl
set_option linter.unusedVariables false
namespace Go.Proofs.Ytbkembafdhjbkaa
open Go.RowKit
theorem cell_till {w : World} {ad : Addr} {m : Nat} {r : Rc} (h : ∀ j u, r.cells[j]? = some u → w.cell? ((ad.add m).add j) = some u) : w.cell? ⟨(ad.add m).block, (ad.add m).off + 2, none⟩ = some (.int .i64 r.till) := by
  have := h 2 _ rfl
  rw [show (ad.add m).add 2 = ⟨(ad.add m).block, (ad.add m).off + 2, none⟩ from rfl] at this
  exact this
set_option maxHeartbeats 1000000 in
theorem rlive_walk (rs : List Rc) (A : Option Addr) (c : Nat) (now : Int) (w : World) (hr : RecsAt w A c rs) :
    Calls Try.prog 25 #[.slice A rs.length c, .int .i64 now] w (OwnRec (liveL now rs) w) := by
  obtain ⟨i0, hi, hz0, hz1, hz2⟩ := info_parts info_rec
  obtain ⟨hc, hm, hr⟩ := hr
  go_enter Try.func25, Try.ntmps25
  go_wp2_with fail
  go_loopw [5, 6] (fun ov nv wr => ∃ k : Nat, k ≤ rs.length ∧ nv = .int .i64 k ∧ wr.ownsRow w.heap.size 32 15 ov (liveL now (rs.take k)).length (recCells (liveL now (rs.take k))) ∧ Below w.heap.size w wr) (fun _ nv _ => rs.length - (intOf nv).toNat)
  case atStart => exact ⟨0, by omega, rfl, World.ownsRow_nil _ _ _ _, Below.refl _ _⟩
  case round =>
    obtain ⟨k, hk, rfl, hown, hbl⟩ := hrel
    by_cases hlt : k < rs.length
    · obtain ⟨ad, rfl⟩ : ∃ ad, A = some ad := by obtain ⟨ad, h, _⟩ := hr.2 (by omega); exact ⟨ad, h⟩
      obtain ⟨r, hrk⟩ : ∃ r, rs[k]? = some r := ⟨rs[k], List.getElem?_eq_getElem hlt⟩
      have hra := rec_at (hr.below hbl) hrk
      have hkt := cell_till hra
      have HRA := Lib.hid hra
      have htf := Lib.hid (take_filter (p := fun x => decide (now < x.till)) hrk)
      obtain ⟨l, hl⟩ : ∃ l, liveL now (rs.take k) = l := ⟨_, rfl⟩
      have HL := Lib.hid hl
      have hll : l.length ≤ 1000000 := by
        rw [← hl]
        have := liveL_le now (rs.take k)
        rw [List.length_take] at this
        omega
      rw [hl] at hown
      obtain ⟨tl, htl⟩ : ∃ tl, r.till = tl := ⟨_, rfl⟩
      rw [htl] at hkt
      have HTL := Lib.hid htl
      have cd := Lib.hid (rdlive_walk now tl)
      have hsz := hbl.size
      clear hra hl htl
      cases hp : decide (now < tl)
      · have htf2 : Hid (liveL now (rs.take (k + 1)) = l) := by
          show _ = _
          have := htf.out
          rw [HTL.out, hp] at this
          rw [liveL, this]
          rw [← HL.out, liveL]
          simp
        rw [hp] at cd
        clear hp
        go_wp2_with fail
        refine (cd.out _).mono ?_
        rintro _ w1 ⟨rfl, rfl⟩
        go_wp2_with fail
        exact ⟨⟨k + 1, by omega, by go_num, by rw [htf2.out]; exact hown, hbl⟩, by simp [intOf]; omega⟩
      · have htf2 : Hid (liveL now (rs.take (k + 1)) = l ++ [r]) := by
          show _ = _
          have := htf.out
          rw [HTL.out, hp] at this
          rw [liveL, this]
          rw [← HL.out, liveL]
          simp
        rw [hp] at cd
        clear hp
        go_wp2_with fail
        refine (cd.out _).mono ?_
        rintro _ w1 ⟨rfl, rfl⟩
        have h15 := r.sz
        have hrd := reads_new wr 32 r.cells
        go_wp2_with (first
          | (refine wpList_load_rec rfl _ rfl (ad.add (k * 15)) rfl r HRA.out ?_)
          | (at_builtin; rw [fold_rec]; refine wpList_append_any (wr.alloc (.cells r.arr 32)) rfl (.tmp 20) (.tmp 25) 24 rfl w.heap.size 32 i0 (.agg Rc.none.arr) 15 176 Try.underlying24 hi hz0 hz1 hz2 rfl (by decide) u5 l.length (recCells l) rfl (hown.alloc _) (wr.heap.size + 1) _ 1 1 r.cells rfl hrd (fun u hu => recCells_ones [r] u (by simpa [recCells] using hu)) (by unfold maxLen; omega) (by omega) (by simp; omega) ?_; intro v' w2 hown2 hg2 hat2))
        have hb3 : Below w.heap.size w w2 := (hbl.alloc hsz _).grown hg2 (by simp; omega) (fun g hg => by have := hown.lt g hg; omega)
        exact ⟨⟨k + 1, by omega, by go_num, by rw [htf2.out]; exact rec_next hown2 rfl, hb3⟩, by simp [intOf]; omega⟩
    · obtain rfl : k = rs.length := by omega
      rw [List.take_length] at hown
      go_wp2_with fail
      go_ret
      exact ⟨_, rfl, hown, hbl⟩
set_option maxHeartbeats 1000000 in
theorem rat_walk (rs : List Rc) (A : Option Addr) (c : Nat) (kind key : Int) (w : World) (hr : RecsAt w A c rs) :
    Calls Try.prog 44 #[.slice A rs.length c, .int .i64 kind, .int .i64 key] w fun e w' => e = .returned (.int .i64 (idxI (isAt kind key) rs)) ∧ w = w' := by
  obtain ⟨hc, hm, hr⟩ := hr
  go_enter Try.func44, Try.ntmps44
  go_wp2_with fail
  go_loopw [7] (fun nv wr => ∃ k : Nat, k ≤ rs.length ∧ nv = .int .i64 k ∧ Hid (∀ j, j < k → ∀ r, rs[j]? = some r → isAt kind key r = false) ∧ w = wr) (fun nv _ => rs.length - (intOf nv).toNat)
  case atStart => exact ⟨0, by omega, rfl, fun j hj => by omega, rfl⟩
  case round =>
    obtain ⟨k, hk, rfl, hno, rfl⟩ := hrel
    by_cases hlt : k < rs.length
    · obtain ⟨ad, rfl⟩ : ∃ ad, A = some ad := by obtain ⟨ad, h, _⟩ := hr.2 (by omega); exact ⟨ad, h⟩
      obtain ⟨r, hrk⟩ : ∃ r, rs[k]? = some r := ⟨rs[k], List.getElem?_eq_getElem hlt⟩
      have HRK := Lib.hid hrk
      have hra := rec_at hr hrk
      obtain ⟨hk0, _, hk1⟩ := cell_field hra
      have hp : Hid (isAt kind key r = (r.kind == kind && r.key == key)) := rfl
      have HN : isAt kind key r = false → Hid (∀ j, j < k + 1 → ∀ r, rs[j]? = some r → isAt kind key r = false) := by
        intro hf
        show ∀ j, j < k + 1 → _
        intro j hj r' hr'
        rcases Nat.lt_or_ge j k with h | h
        · exact hno.out j h r' hr'
        · rw [show j = k by omega, hrk] at hr'
          injection hr' with e
          rw [← e]; exact hf
      have HNN := Lib.hid HN
      obtain ⟨kd, hkd⟩ : ∃ kd, r.kind = kd := ⟨_, rfl⟩
      obtain ⟨ky, hky⟩ : ∃ ky, r.key = ky := ⟨_, rfl⟩
      rw [hkd] at hk0 hp
      rw [hky] at hk1 hp
      clear hra hkd hky HN hrk
      cases e1 : kd == kind
      · have hf : Hid (isAt kind key r = false) := by show _ = _; rw [hp.out, e1]; rfl
        go_wp2_with fail
        exact ⟨⟨k + 1, by omega, by go_num, HNN.out hf.out, trivial⟩, by simp [intOf]; omega⟩
      · cases e2 : ky == key
        · have hf : Hid (isAt kind key r = false) := by show _ = _; rw [hp.out, e1, e2]; rfl
          go_wp2_with fail
          exact ⟨⟨k + 1, by omega, by go_num, HNN.out hf.out, trivial⟩, by simp [intOf]; omega⟩
        · have hv : Hid (idxI (isAt kind key) rs = (k : Int)) := by show _ = _; rw [idxI, idx_some hno.out HRK.out (by rw [hp.out, e1, e2]; rfl)]
          go_wp2_with fail
          go_ret
          exact ⟨by rw [hv.out]; rfl, rfl⟩
    · obtain rfl : k = rs.length := by omega
      have hv : Hid (idxI (isAt kind key) rs = -1) := by show _ = _; rw [idxI, idx_none hno.out]
      go_wp2_with fail
      go_ret
      exact ⟨by rw [hv.out]; rfl, rfl⟩
end Go.Proofs.Ytbkembafdhjbkaa

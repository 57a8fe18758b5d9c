/- query.Print, walked to printL. Condition: the table of digits is laid. -/
import Derived.Test.YtolfcpbcccbmmaaGreatDoorHg
import Derived.Deep.RegionHeld
set_option linter.unusedVariables false
set_option linter.unusedSimpArgs false
set_option maxRecDepth 20000
namespace Go.Proofs.YtolfcpbcccbmmaaGreatDoor
open Go.RowKit Pc
/-- a field in a box -/
def BoxS (g : Nat) (f : Fl) (W : World) : Prop := Blk W g 57 f.arr ∧ W.cell? ⟨g, 0, none⟩ = some (.string ⟨f.n.toArray⟩) ∧ W.cell? ⟨g, 1, none⟩ = some (.string ⟨f.v.toArray⟩)
theorem boxS {g : Nat} {f : Fl} {W : World} (h : Blk W g 57 f.arr) : Blk W g 57 f.arr ∧ W.cell? ⟨g, 0, none⟩ = some (.string ⟨f.n.toArray⟩) ∧ W.cell? ⟨g, 1, none⟩ = some (.string ⟨f.v.toArray⟩) :=
  ⟨h, h.cell 0, h.cell 1⟩
theorem cat_field (f : Fl) : (⟨(encL true f.n).toArray⟩ : ByteArray) ++ ⟨#[61]⟩ ++ ⟨(encL true f.v).toArray⟩ = ⟨(encF f).toArray⟩ := by
  apply str_eq
  simp [ByteArray.data_append, encF]
def encS (fs : List Fl) : List (List UInt8) := fs.map encF
theorem encS_step (fs : List Fl) (k : Nat) (f : Fl) (h : fs[k]? = some f) : strVs (encS (fs.take (k + 1))) = strVs (encS (fs.take k)) ++ [strV (encF f)] := by
  rw [List.take_add_one, h]
  simp [strVs, encS]
theorem encS_len (fs : List Fl) (k : Nat) (h : k ≤ fs.length) : (strVs (encS (fs.take k))).length = k := by simp [strVs, encS]; omega
set_option maxHeartbeats 8000000 in
theorem print_walk (fs : List Fl) (A : Option Addr) (c : Nat) (w : World) (hr : FsAt w A c fs) (hd : DigOk w) (hm : sumF fs ≤ 100000) :
    Calls Tryz.prog 54 #[.slice A fs.length c] w fun e w' => e = .returned (.string ⟨(printL fs).toArray⟩) ∧ Below w.heap.size w w' := by
  obtain ⟨i0, hi, hz0, hz1, hz2⟩ := infoS4 info_string
  obtain ⟨hc, hl, hr⟩ := hr
  have HD := Lib.hid hd
  have HM := Lib.hid hm
  clear hd hm
  go_enter Tryz.func54, Tryz.ntmps54
  go_wp2_with fail
  go_loopw [3, 8] (fun ov nv wr => ∃ k : Nat, k ≤ fs.length ∧ nv = .int .i64 k ∧ wr.ownsRow w.heap.size 9 1 ov k (strVs (encS (fs.take k))) ∧ Below w.heap.size w wr) (fun _ nv _ => fs.length - (intOf nv).toNat)
  case atStart => exact ⟨0, by omega, rfl, World.ownsRow_nil _ _ _ _, Below.refl _ _⟩
  case round =>
    obtain ⟨k, hk, rfl, hown, hbl⟩ := hrel
    by_cases hlt : k < fs.length
    · obtain ⟨ad, rfl⟩ : ∃ ad, A = some ad := by obtain ⟨ad, h, _⟩ := hr.2 (by omega); exact ⟨ad, h⟩
      obtain ⟨f, hfk⟩ : ∃ f, fs[k]? = some f := ⟨fs[k], List.getElem?_eq_getElem hlt⟩
      have hra := Lib.hid (fl_at (hr.below hbl) hfk)
      have hfm := sumF_mem (List.mem_of_getElem? hfk)
      have hmm := HM.out
      have hst := Lib.hid (encS_step fs k f hfk)
      have cn := Lib.hid (fun W h => enc_walk ⟨f.n.toArray⟩ f.n (by simp) true W h (by rw [size_mks]; omega))
      have cv := Lib.hid (fun W h => enc_walk ⟨f.v.toArray⟩ f.v (by simp) true W h (by rw [size_mks]; omega))
      have hcat := cat_field f
      have hxs : (⟨(encL true f.n).toArray⟩ : ByteArray).size ≤ 300000 := by rw [size_mks]; have := encL_len true f.n; omega
      have hys : (⟨(encL true f.v).toArray⟩ : ByteArray).size ≤ 300000 := by rw [size_mks]; have := encL_len true f.v; omega
      obtain ⟨x, hx⟩ : ∃ x : ByteArray, (⟨(encL true f.n).toArray⟩ : ByteArray) = x := ⟨_, rfl⟩
      obtain ⟨y, hy⟩ : ∃ x : ByteArray, (⟨(encL true f.v).toArray⟩ : ByteArray) = x := ⟨_, rfl⟩
      rw [hx, hy] at hcat
      rw [hx] at cn hxs
      rw [hy] at cv hys
      have hx1 : ¬ 9223372036854775807 < x.size + 1 := by omega
      have hx2 : ¬ 9223372036854775807 < x.size + 1 + y.size := by omega
      have HC := Lib.hid hcat
      have ha0 := f.at0
      have ha1 := f.at1
      clear hcat hx hy hfk hfm hmm
      have hszb := hbl.size
      have HBx := Lib.hid (hbl.alloc hszb (.cells f.arr 57))
      have hS0 := boxS (Blk.new wr 57 f.arr).drew
      have HO := Lib.hid (hown.alloc (.cells f.arr 57)).drew
      have hown' := Lib.hid hown
      clear hown
      go_wp2_with (first | (refine wpList_load_fl rfl _ rfl (ad.add (k * 2)) rfl f hra.out ?_) | (refine wpList_store_fl wr rfl _ _ rfl rfl rfl ?_))
      refine wp_region_held_drew (S := fun W => Blk W wr.heap.size 57 f.arr ∧ W.cell? ⟨wr.heap.size, 0, none⟩ = some (.string ⟨f.n.toArray⟩) ∧ W.cell? ⟨wr.heap.size, 1, none⟩ = some (.string ⟨f.v.toArray⟩)) (by kernel_rfl) hS0 (fun hHeld => ?_)
      first | (refine wpAnyH_take (i := 0) (v := _) rfl (by kernel_rfl) (by kernel_rfl) (by kernel_rfl) (fun _ _ _ h => h) (Or.inr ⟨?_, rfl⟩) (by assumption) ?_; rfl) | (refine wpAnyH_take (i := 0) (v := ?_) rfl (by kernel_rfl) (by kernel_rfl) (by kernel_rfl) (fun _ _ _ h => h) (Or.inl ⟨?_, ?_⟩) (by assumption) ?_; rotate_left; rfl; focus (intro w hSw; (try dsimp only at hSw); go_simp; all_goals (with_reducible rfl)))
      (try simp only [List.getElem_toArray, List.getElem_cons_zero, List.getElem_cons_succ, Act.put, List.setIfInBounds_toArray, List.set_cons_zero, List.set_cons_succ])
      first | (refine wpAnyH_take (i := 1) (v := _) rfl (by kernel_rfl) (by kernel_rfl) (by kernel_rfl) (fun _ _ _ h => h) (Or.inr ⟨?_, rfl⟩) (by assumption) ?_; rfl) | (refine wpAnyH_take (i := 1) (v := ?_) rfl (by kernel_rfl) (by kernel_rfl) (by kernel_rfl) (fun _ _ _ h => h) (Or.inl ⟨?_, ?_⟩) (by assumption) ?_; rotate_left; rfl; focus (intro w hSw; (try dsimp only at hSw); go_simp; all_goals (with_reducible rfl)))
      (try simp only [List.getElem_toArray, List.getElem_cons_zero, List.getElem_cons_succ, Act.put, List.setIfInBounds_toArray, List.set_cons_zero, List.set_cons_succ])
      first | (refine wpAnyH_take (i := 2) (v := _) rfl (by kernel_rfl) (by kernel_rfl) (by kernel_rfl) (fun _ _ _ h => h) (Or.inr ⟨?_, rfl⟩) (by assumption) ?_; rfl) | (refine wpAnyH_take (i := 2) (v := ?_) rfl (by kernel_rfl) (by kernel_rfl) (by kernel_rfl) (fun _ _ _ h => h) (Or.inl ⟨?_, ?_⟩) (by assumption) ?_; rotate_left; rfl; focus (intro w hSw; (try dsimp only at hSw); go_simp; all_goals (with_reducible rfl)))
      (try simp only [List.getElem_toArray, List.getElem_cons_zero, List.getElem_cons_succ, Act.put, List.setIfInBounds_toArray, List.set_cons_zero, List.set_cons_succ])
      first | (refine wpAnyH_take (i := 5) (v := _) rfl (by kernel_rfl) (by kernel_rfl) (by kernel_rfl) (fun _ _ _ h => h) (Or.inr ⟨?_, rfl⟩) (by assumption) ?_; rfl) | (refine wpAnyH_take (i := 5) (v := ?_) rfl (by kernel_rfl) (by kernel_rfl) (by kernel_rfl) (fun _ _ _ h => h) (Or.inl ⟨?_, ?_⟩) (by assumption) ?_; rotate_left; rfl; focus (intro w hSw; (try dsimp only at hSw); go_simp; all_goals (with_reducible rfl)))
      (try simp only [List.getElem_toArray, List.getElem_cons_zero, List.getElem_cons_succ, Act.put, List.setIfInBounds_toArray, List.set_cons_zero, List.set_cons_succ])
      first | (refine wpAnyH_take (i := 6) (v := _) rfl (by kernel_rfl) (by kernel_rfl) (by kernel_rfl) (fun _ _ _ h => h) (Or.inr ⟨?_, rfl⟩) (by assumption) ?_; rfl) | (refine wpAnyH_take (i := 6) (v := ?_) rfl (by kernel_rfl) (by kernel_rfl) (by kernel_rfl) (fun _ _ _ h => h) (Or.inl ⟨?_, ?_⟩) (by assumption) ?_; rotate_left; rfl; focus (intro w hSw; (try dsimp only at hSw); go_simp; all_goals (with_reducible rfl)))
      (try simp only [List.getElem_toArray, List.getElem_cons_zero, List.getElem_cons_succ, Act.put, List.setIfInBounds_toArray, List.set_cons_zero, List.set_cons_succ])
      refine wpAnyH_ready (rs := [3]) (by kernel_rfl) (by simp) ?_
      refine AllReadyH.cons rfl (fun K hK => ?_) AllReadyH.nil
      go_simp
      go_at_call 73
      with_reducible refine (cn.out _ (HD.out.below HBx.out.drew)).mono ?_
      rintro _ w6 ⟨rfl, hbn⟩
      have hs6 := hbn.size
      have HB6 := Lib.hid (below_next HBx.out.drew hbn)
      have HO6 := Lib.hid (ownsRow_below HO.out hbn)
      have hk6 := Blk.below hS0.1 hbn hS0.1.lt
      refine hK.out _ _ (boxS hk6) (fun hHeld => ?_)
      clear hK K hbn
      (try simp only [List.getElem_toArray, List.getElem_cons_zero, List.getElem_cons_succ, Act.put, List.setIfInBounds_toArray, List.set_cons_zero, List.set_cons_succ])
      first | (refine wpAnyH_take (i := 4) (v := _) rfl (by kernel_rfl) (by kernel_rfl) (by kernel_rfl) (fun _ _ _ h => h) (Or.inr ⟨?_, rfl⟩) (by assumption) ?_; rfl) | (refine wpAnyH_take (i := 4) (v := ?_) rfl (by kernel_rfl) (by kernel_rfl) (by kernel_rfl) (fun _ _ _ h => h) (Or.inl ⟨?_, ?_⟩) (by assumption) ?_; rotate_left; rfl; focus (intro w hSw; (try dsimp only at hSw); go_simp; all_goals (with_reducible rfl)))
      (try simp only [List.getElem_toArray, List.getElem_cons_zero, List.getElem_cons_succ, Act.put, List.setIfInBounds_toArray, List.set_cons_zero, List.set_cons_succ])
      refine wpAnyH_ready (rs := [7]) (by kernel_rfl) (by simp) ?_
      refine AllReadyH.cons rfl (fun K hK => ?_) AllReadyH.nil
      go_simp
      go_at_call 73
      with_reducible refine (cv.out _ (HD.out.below HB6.out)).mono ?_
      rintro _ w7 ⟨rfl, hbn⟩
      have HB7 := Lib.hid (below_next HB6.out hbn)
      have HO7 := Lib.hid (ownsRow_below HO6.out hbn)
      have hk7 := Blk.below hk6 hbn hk6.lt
      refine hK.out _ _ (boxS hk7) (fun hHeld => ?_)
      clear hK K hbn
      (try simp only [List.getElem_toArray, List.getElem_cons_zero, List.getElem_cons_succ, Act.put, List.setIfInBounds_toArray, List.set_cons_zero, List.set_cons_succ])
      first | (refine wpAnyH_take (i := 8) (v := _) rfl (by kernel_rfl) (by kernel_rfl) (by kernel_rfl) (fun _ _ _ h => h) (Or.inr ⟨?_, rfl⟩) (by assumption) ?_; rfl) | (refine wpAnyH_take (i := 8) (v := ?_) rfl (by kernel_rfl) (by kernel_rfl) (by kernel_rfl) (fun _ _ _ h => h) (Or.inl ⟨?_, ?_⟩) (by assumption) ?_; rotate_left; rfl; focus (intro w hSw; (try dsimp only at hSw); go_simp; all_goals (with_reducible rfl)))
      (try simp only [List.getElem_toArray, List.getElem_cons_zero, List.getElem_cons_succ, Act.put, List.setIfInBounds_toArray, List.set_cons_zero, List.set_cons_succ])
      refine wpAnyH_ready (rs := [9]) (by kernel_rfl) (by simp) ?_
      refine AllReadyH.cons rfl (fun K hK => ?_) AllReadyH.nil
      go_simp
      refine hK.out _ _ (boxS (hk7.alloc _)) (fun hHeld => ?_)
      clear hK K
      (try simp only [List.getElem_toArray, List.getElem_cons_zero, List.getElem_cons_succ, Act.put, List.setIfInBounds_toArray, List.set_cons_zero, List.set_cons_succ])
      refine wpAnyH_ready (rs := [10]) (by kernel_rfl) (by simp) ?_
      refine AllReadyH.cons rfl (fun K hK => ?_) AllReadyH.nil
      refine step_append_any (w7.alloc (.cells #[.string (x ++ ⟨#[61]⟩ ++ y)] 9)) (by rfl) (.tmp 12) (.tmp 21) 24 (by rfl) w.heap.size 9 i0 (.string ⟨#[]⟩) 1 16 Tryz.underlying24 hi hz0 hz1 hz2 rfl (by decide) u3 k (strVs (encS (fs.take k))) (by rfl) (HO7.out.alloc _) (w7.heap.size + 1) (some ⟨w7.heap.size, 0, none⟩) 1 1 [.string (x ++ ⟨#[61]⟩ ++ y)] (by rfl) (reads_row w7 9 [.string (x ++ ⟨#[61]⟩ ++ y)]) (by simp [Value.oneCell']) (by unfold maxLen; omega) (by omega) (by have := HB7.out.size; simp; omega) ?_
      intro v' w8 hown8 hg8 hat8
      have hne : some wr.heap.size ≠ u3.ownBlock := fun e => by have := hown'.out.lt _ e.symm; omega
      refine hK.out _ _ (boxS ((hk7.alloc _).grown hg8 hne)) (fun hHeld => ?_)
      clear hK K
      (try simp only [List.getElem_toArray, List.getElem_cons_zero, List.getElem_cons_succ, Act.put, List.setIfInBounds_toArray, List.set_cons_zero, List.set_cons_succ])
      first | (refine wpAnyH_take (i := 11) (v := _) rfl (by kernel_rfl) (by kernel_rfl) (by kernel_rfl) (fun _ _ _ h => h) (Or.inr ⟨?_, rfl⟩) (by assumption) ?_; rfl) | (refine wpAnyH_take (i := 11) (v := ?_) rfl (by kernel_rfl) (by kernel_rfl) (by kernel_rfl) (fun _ _ _ h => h) (Or.inl ⟨?_, ?_⟩) (by assumption) ?_; rotate_left; rfl; focus (intro w hSw; (try dsimp only at hSw); go_simp; all_goals (with_reducible rfl)))
      (try simp only [List.getElem_toArray, List.getElem_cons_zero, List.getElem_cons_succ, Act.put, List.setIfInBounds_toArray, List.set_cons_zero, List.set_cons_succ])
      refine wpAnyH_done (by kernel_rfl) ?_ _
      have hb8 : Below w.heap.size w w8 := (HB7.out.alloc HB7.out.size _).grown hg8 (by have := HB7.out.size; simp; omega) (fun g hg => by have := hown'.out.lt g hg; omega)
      have hown9 : w8.ownsRow w.heap.size 9 1 v' (k + 1) (strVs (encS (fs.take (k + 1)))) := by
        rw [hst.out]
        rw [HC.out] at hown8
        exact hown8
      clear hown8 hg8 hat8 hHeld
      go_wp2_with fail
      exact ⟨⟨k + 1, by omega, by go_num, hown9, hb8⟩, by simp [intOf]; omega⟩
    · obtain rfl : k = fs.length := by omega
      have hlen := printL_len fs
      rw [List.take_length] at hown
      have hHM := HM.out
      have hj : Lib.join ((fs.map fun f => (⟨(encF f).toArray⟩ : ByteArray)).map (·.data.toList)) (⟨#[38]⟩ : ByteArray).data.toList = printL fs := by
        rw [printL, List.map_map]
        rfl
      have hb := hbl
      have hbl' := Lib.hid hbl
      rcases hown.2 with ⟨h1, h0⟩ | ⟨g, c2, cur, rfl, hgl, hcur, hnc, hcm, _, _⟩
      · have hf0 : fs = [] := List.eq_nil_of_length_eq_zero h0
        subst hf0
        subst h1
        have cj := Lib.hid (Tryz.strings_Join_none none 0 ⟨#[38]⟩ wr)
        go_wp2_with fail
        refine cj.out.mono ?_
        rintro _ w2 ⟨rfl, rfl⟩
        go_wp2_with fail
        go_ret
        exact ⟨rfl, hb⟩
      · have hglt : g < wr.heap.size := by
          rcases Nat.lt_or_ge g wr.heap.size with h | h
          · exact h
          · rw [Array.getElem?_eq_none h] at hcur; cases hcur
        have cj := Lib.hid (Tryz.strings_Join g 0 c2 (fs.map fun f => ⟨(encF f).toArray⟩) ⟨#[38]⟩ wr (fun j x hx => by
          have hx' : (strVs (encS fs))[j]? = some (.string x) := by
            rw [List.getElem?_map] at hx
            simp only [strVs, encS, List.getElem?_map, strV]
            cases hq : fs[j]? with
            | none => rw [hq] at hx; cases hx
            | some f => rw [hq] at hx; injection hx with hx; rw [← hx]; rfl
          have := hown.cells (g := g) rfl j _ hx'
          have hadd : (⟨g, 0, none⟩ : Addr).add j = ⟨g, j, none⟩ := by unfold Addr.add; split <;> simp_all
          rw [hadd] at this
          rw [Nat.zero_add]
          exact this) hglt (by rw [List.length_map]; omega) (by rw [List.length_map]; exact hnc) (by rw [hj]; omega))
        rw [hj, List.length_map] at cj
        clear hown hcur hj
        go_wp2_with fail
        refine cj.out.mono ?_
        rintro _ w2 ⟨rfl, hbn⟩
        have hb2 := below_next hbl'.out hbn
        go_wp2_with fail
        go_ret
        exact ⟨rfl, hb2⟩
end Go.Proofs.YtolfcpbcccbmmaaGreatDoor

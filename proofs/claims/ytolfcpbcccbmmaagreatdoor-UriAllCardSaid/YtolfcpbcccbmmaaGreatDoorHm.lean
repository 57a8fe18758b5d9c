/- countersignlaw10.Fields: some fields with unlike names. No condition of its own. -/
import Derived.Test.YtolfcpbcccbmmaaGreatDoorHl
set_option linter.unusedVariables false
set_option linter.unusedSimpArgs false
set_option maxRecDepth 20000
namespace Go.Proofs.YtolfcpbcccbmmaaGreatDoor
open Go.RowKit Pc
theorem str_of (x : ByteArray) : ∃ n : List UInt8, x = ⟨n.toArray⟩ := ⟨x.data.toList, by simp⟩
/-- some fields come back -/
def FieldsR (most : Nat) (w : World) (e : Ending) (w' : World) : Prop :=
  ∃ (v : Value) (fs : List Fl), e = .returned v ∧ w'.ownsRow w.heap.size 57 2 v fs.length (fCells fs) ∧ UnlikeP fs ∧ fs.length ≤ most ∧ (∀ f ∈ fs, f.n.length ≤ 5 ∧ f.v.length ≤ 13) ∧ Below w.heap.size w w'
set_option maxHeartbeats 8000000 in
theorem fields_walk (zs : List Int) (A : Option Addr) (c : Nat) (most : Nat) (hm : most ≤ 1000) (w : World) (hr : IntsIn w A c zs) :
    Calls Tryz.prog 34 #[.slice A zs.length c, .int .i64 most] w (FieldsR most w) := by
  obtain ⟨i0, hi, hz0, hz1, hz2⟩ := infoS4 info_fl
  have HT := Lib.hid (tape_new hr)
  clear hr
  go_enter Tryz.func34, Tryz.ntmps34
  go_wp2_with fail
  go_loopw [6, 7] (fun ov nv wr => ∃ (i k : Nat) (acc : List Fl), i ≤ most ∧ acc.length ≤ i ∧ nv = .int .i64 i ∧ wr.ownsRow (w.heap.size + 1) 57 2 ov acc.length (fCells acc) ∧ Hid (UnlikeP acc) ∧ Hid (∀ f ∈ acc, f.n.length ≤ 5 ∧ f.v.length ≤ 13) ∧ Hid (TapeAt wr w.heap.size zs k) ∧ Hid (Below w.heap.size w wr)) (fun _ nv _ => most - (intOf nv).toNat)
  case atStart => exact ⟨0, 0, [], by omega, by simp, rfl, World.ownsRow_nil _ _ _ _, unlikeP_nil, (fun f h => by cases h), HT, (Below.refl _ _).alloc (Nat.le_refl _) _⟩
  case round =>
    clear HT
    obtain ⟨i, k, acc, hi2, hai, rfl, hown, hU, hS, hT, hB⟩ := hrel
    have cm := Lib.hid (more_walk zs w.heap.size k wr hT.out)
    obtain ⟨A2, c2, rfl, hfs⟩ := FsAt.own hown (by omega)
    have HO := Lib.hid hown
    clear hown hfs
    by_cases hlt : i < most
    · by_cases hk : k < zs.length
      · rw [show decide (k < zs.length) = true by simpa using hk] at cm
        have hgl := hT.out.lt
        go_wp2_with fail
        refine cm.out.mono ?_
        rintro _ w1 ⟨rfl, q, rfl⟩
        go_wp2_with fail
        refine (pick_walk zs w.heap.size k _ 9 ((wr.drewN q).heap.size + 1) nameL (by decide) (by decide) (by decide) _ ?ht ?hr ?hB ?hne).mono ?_
        case ht => exact (hT.out.drewN q).grown (only_alloc (only_refl _ none) _) (fun r e => by cases e)
        case hr => exact reads_row (wr.drewN q) 9 (nameL.map Value.string)
        case hB => simp
        case hne => intro p e; injection e with e; subst e; simp; omega
        have hrp := nextR_pos zs k nameL.length (by decide)
        have hx := (show ∀ x ∈ nameL, x.size ≤ 5 ∧ 0 < x.size by decide) _ (getD_mem (L := nameL) (r := (nextR zs k nameL.length).toNat) (by omega))
        generalize nameL.getD (nextR zs k nameL.length).toNat ByteArray.empty = x at hx
        obtain ⟨n, rfl⟩ := str_of x
        rw [size_mks] at hx
        rintro _ w2 ⟨rfl, ht2, hg2, hs2⟩
        generalize nextA zs k nameL.length = k2 at ht2
        have HB2 := Lib.hid (((below_drewN hB.out q).alloc hB.out.size _).grown hg2 (by have := hB.out.size; simp; omega) (fun r e => by injection e with e; omega))
        have HO2 := Lib.hid (own_only (World.ownsRow.alloc (w := wr.drewN q) HO.out _) hg2 (Nat.lt_succ_self _))
        have HT2 := Lib.hid ht2
        have hgl2 := ht2.lt
        have HX := Lib.hid hx
        clear ht2 hg2 hs2 hT hB cm hrp hx
        go_wp2_with fail
        refine (pick_walk zs w.heap.size k2 _ 8 (w2.heap.size + 1) valL (by decide) (by decide) (by decide) _ ?ht2 ?hr2 ?hB2 ?hne2).mono ?_
        case ht2 => exact HT2.out.grown (only_alloc (only_refl _ none) _) (fun r e => by cases e)
        case hr2 => exact reads_row w2 9 (valL.map Value.string)
        case hB2 => simp
        case hne2 => intro p e; injection e with e; subst e; simp; omega
        have hy := getD_size (L := valL) (n := 13) (by decide) (nextR zs k2 valL.length).toNat
        generalize valL.getD (nextR zs k2 valL.length).toNat ByteArray.empty = y at hy
        obtain ⟨v, rfl⟩ := str_of y
        rw [size_mks] at hy
        rintro _ w3 ⟨rfl, ht3, hg3, hs3⟩
        generalize nextA zs k2 valL.length = k4 at ht3
        have HB3 := Lib.hid ((HB2.out.alloc HB2.out.size _).grown hg3 (by have := HB2.out.size; simp; omega) (fun r e => by injection e with e; omega))
        have HO3 := Lib.hid (own_only (HO2.out.alloc _) hg3 (Nat.lt_succ_self _))
        have HT3 := Lib.hid ht3
        have hgl3 := ht3.lt
        clear ht3 hg3 hs3 HT2 HB2 HO2
        have HT4 := Lib.hid (HT3.out.grown (only_alloc (only_refl w3 none) (.cells (Fl.mk n v).arr 57)) (fun r e => by cases e))
        have HB4 := Lib.hid (HB3.out.alloc HB3.out.size (.cells (Fl.mk n v).arr 57))
        have HO4 := Lib.hid (HO3.out.alloc (.cells (Fl.mk n v).arr 57))
        obtain ⟨A3, c3, e3, hfs⟩ := FsAt.own HO4.out (by omega)
        injection e3 with eA _ ec
        subst eA ec
        have ct := Lib.hid (rhas_walk acc A2 c2 n ⟨n.toArray⟩ (by simp) _ hfs)
        have hbf := Lib.hid (blk_fl (Blk.new w3 57 (Fl.mk n v).arr))
        have ha0 := (Fl.mk n v).at0
        clear hfs
        have harr : (#[.string ⟨n.toArray⟩, .string ⟨v.toArray⟩] : Array Value) = (Fl.mk n v).arr := rfl
        cases hh : hasF n acc with
        | true =>
          rw [hh] at ct
          clear hh
          go_wp2_with (first | (refine wpList_store_fl w3 (f := ⟨n, v⟩) rfl _ _ rfl rfl rfl ?_))
          refine ct.out.mono ?_
          rintro _ w5 ⟨rfl, rfl⟩
          go_wp2_with fail
          exact ⟨⟨i + 1, k4, acc, by omega, by omega, by go_num, HO4.out, hU, hS, HT4, HB4⟩, by simp [intOf]; omega⟩
        | false =>
          rw [hh] at ct
          have HU : Hid (UnlikeP (acc ++ [⟨n, v⟩])) := unlikeP_snoc hU.out (by intro e; have := HX.out.2; simp only at e; rw [e] at this; exact absurd this (by decide)) hh
          have HS : Hid (∀ f ∈ acc ++ [Fl.mk n v], f.n.length ≤ 5 ∧ f.v.length ≤ 13) := by
            intro f hf
            rcases List.mem_append.1 hf with h | h
            · exact hS.out f h
            · rw [List.mem_singleton.1 h]; exact ⟨HX.out.1, hy⟩
          have hrd := reads_new (w3.alloc (.cells (Fl.mk n v).arr 57)) 57 (Fl.mk n v).cells
          rw [show (w3.alloc (.cells (Fl.mk n v).arr 57)).heap.size = w3.heap.size + 1 by simp] at hrd
          have hsz := HB4.out.size
          have hsz4 : w.heap.size + 1 ≤ w3.heap.size := hgl3
          clear hh
          go_wp2_with (first | (refine wpList_store_fl w3 (f := ⟨n, v⟩) rfl _ _ rfl rfl rfl ?_))
          refine ct.out.mono ?_
          rintro _ w5 ⟨rfl, rfl⟩
          have hfz := (Fl.mk n v).sz
          go_wp2_with (first
            | (refine wpList_load_fl rfl _ rfl ⟨w3.heap.size, 0, none⟩ rfl ⟨n, v⟩ hbf.out ?_)
            | (at_builtin; rw [fold_fl]; refine wpList_append_any ((w3.alloc (.cells (Fl.mk n v).arr 57)).alloc (.cells (Fl.mk n v).arr 57)) rfl (.tmp 33) (.tmp 35) 26 rfl (w.heap.size + 1) 57 i0 (.agg (Fl.mk [] []).arr) 2 32 Tryz.underlying26 hi hz0 hz1 hz2 rfl (by decide) (.slice A2 acc.length c2) acc.length (fCells acc) rfl (HO4.out.alloc _) (w3.heap.size + 1 + 1) _ 1 1 (Fl.mk n v).cells rfl hrd (fun u hu => fCells_ones [⟨n, v⟩] u (by simpa [fCells] using hu)) (by unfold maxLen; omega) (by omega) (by simp; omega) ?_; intro v' w6 hown6 hg6 hat6))
          have hown7 := fl_next (l' := acc ++ [⟨n, v⟩]) hown6 rfl rfl
          have hlt6 : ∀ g', (Value.slice A2 acc.length c2).ownBlock = some g' → w.heap.size < g' := fun g' h => by have := (HO4.out.lt g' h).1; omega
          have HT6 := Lib.hid ((HT4.out.grown (only_alloc (only_refl _ none) (.cells (Fl.mk n v).arr 57)) (fun r e => by cases e)).grown hg6 hlt6)
          have HB6 := Lib.hid ((HB4.out.alloc HB4.out.size (.cells (Fl.mk n v).arr 57)).grown hg6 (by simp; omega) (fun g' h => by have := hlt6 g' h; omega))
          exact ⟨⟨i + 1, k4, acc ++ [⟨n, v⟩], by omega, by simp; omega, by go_num, hown7, HU, HS, HT6, HB6⟩, by simp [intOf]; omega⟩
      · rw [show decide (k < zs.length) = false by simpa using hk] at cm
        go_wp2_with fail
        refine cm.out.mono ?_
        rintro _ w1 ⟨rfl, q, rfl⟩
        go_wp2_with fail
        go_ret
        exact ⟨_, acc, rfl, World.ownsRow.mono (w := wr.drewN q) HO.out (by omega), hU.out, by omega, hS.out, below_drewN hB.out q⟩
    · go_wp2_with fail
      go_ret
      exact ⟨_, acc, rfl, World.ownsRow.mono HO.out (by omega), hU.out, by omega, hS.out, hB.out⟩
end Go.Proofs.YtolfcpbcccbmmaaGreatDoor

/- countersignref2's Take, One: the same answers as the program's. No condition of its own. -/
import Derived.Test.YtekpdkjkkglcjaaEo
import Derived.Test.YtekpdkjkkglcjaaDi
set_option linter.unusedVariables false
set_option linter.unusedSimpArgs false
set_option maxRecDepth 20000
namespace Go.Proofs.Ytekpdkjkkglcjaa
open Go.RowKit
theorem node_all : ∀ d : Nat, d ≤ 17 → RTermOk d
  | 0, _ => by
    intro l g p n deep w hdp h
    rw [decT]
    exact node_big l g p n deep w h (.inr (by omega)) (by omega) (by omega)
  | d + 1, hd => node_succ d (by omega) (node_all d (by omega))
set_option maxHeartbeats 4000000 in
theorem rtake_walk (l : List UInt8) (A : Option Addr) (c : Nat) (w : World) (hl : l.length ≤ 1000000) (hc : l.length ≤ c) (hc2 : c ≤ 9223372036854775807) (hr : Reads w w.heap.size 1 A l.length (Lib.byteCells l)) :
    Calls Try.prog 60 #[.slice A l.length c] w (TakeR l (takeT l) w) := by
  have hb1 := (Below.refl w.heap.size w).alloc (Nat.le_refl _) (.cells #[.int .i64 0, .int .i64 0, .string ⟨#[]⟩, .slice none 0 0] 35)
  have hb2 := hb1.alloc hb1.size (.cells #[.slice A l.length c, .int .i64 0, .int .i64 64, .int .i64 0] 93)
  have hsz : (w.alloc (.cells #[.int .i64 0, .int .i64 0, .string ⟨#[]⟩, .slice none 0 0] 35)).heap.size = w.heap.size + 1 := by simp
  have hrd : RRd ((w.alloc (.cells #[.int .i64 0, .int .i64 0, .string ⟨#[]⟩, .slice none 0 0] 35)).alloc (.cells #[.slice A l.length c, .int .i64 0, .int .i64 64, .int .i64 0] 93)) (w.heap.size + 1) l 0 0 := by
    refine ⟨hl, Nat.zero_le _, by omega, A, c, hc, hc2, ?_, (hr.below hb2).more (Nat.le_succ _)⟩
    have := Blk.new (w.alloc (.cells #[.int .i64 0, .int .i64 0, .string ⟨#[]⟩, .slice none 0 0] 35)) 93 #[.slice A l.length c, .int .i64 0, .int .i64 64, .int .i64 0]
    rw [hsz] at this
    exact this
  have hbr : Blk ((w.alloc (.cells #[.int .i64 0, .int .i64 0, .string ⟨#[]⟩, .slice none 0 0] 35)).alloc (.cells #[.slice A l.length c, .int .i64 0, .int .i64 64, .int .i64 0] 93)) w.heap.size 35 #[.int .i64 0, .int .i64 0, .string ⟨#[]⟩, .slice none 0 0] := (Blk.new w 35 #[.int .i64 0, .int .i64 0, .string ⟨#[]⟩, .slice none 0 0]).alloc _
  have ct := Lib.hid (node_all 16 (by omega) l (w.heap.size + 1) 0 0 1 _ (by omega) hrd)
  have HB2 := Lib.hid hb2
  have HBR := Lib.hid hbr
  have hs2 : ((w.alloc (.cells #[.int .i64 0, .int .i64 0, .string ⟨#[]⟩, .slice none 0 0] 35)).alloc (.cells #[.slice A l.length c, .int .i64 0, .int .i64 64, .int .i64 0] 93)).heap.size = w.heap.size + 2 := by simp
  have HS2 := Lib.hid hs2
  cases hD : decT 16 l 0 0 with
  | error k =>
    have hv : Hid (takeT l = .error k) := by show _ = _; rw [takeT, hD]
    have hk := decT_err _ _ _ _ _ hD
    have k1 : (k != 0) = true := by rw [bne_iff_ne]; omega
    rw [hD] at ct
    clear hD hrd hb1 hb2 hr hbr hsz hs2 hk
    go_enter Try.func60, Try.ntmps60
    go_wp2_with fail
    refine ct.out.mono ?_
    rintro _ w1 ⟨hg1, kd, nm, s, A1, m, cp, rfl, ⟨v9, a9, b9, hre⟩, _⟩
    have hbq := (HBR.out.grown hg1 (fun e => by injection e with e; omega)).alloc (.cells #[.int .i64 kd, .int .i64 nm, .string s, .slice A1 m cp] 35)
    have hbw := only_below HB2.out hg1 (by omega)
    have HBW := Lib.hid (hbw.alloc hbw.size (.cells #[.int .i64 kd, .int .i64 nm, .string s, .slice A1 m cp] 35))
    have hk2 := hre.alloc (.cells #[.int .i64 kd, .int .i64 nm, .string s, .slice A1 m cp] 35)
    have hcq : (w1.alloc (.cells #[.int .i64 kd, .int .i64 nm, .string s, .slice A1 m cp] 35)).cell? ⟨w.heap.size + 1, 3, none⟩ = some (.int .i64 k) := hk2.cell 3
    have hgl1 : w.heap.size + 1 < w1.heap.size := hre.lt
    have hcq1 : w1.cell? ⟨w.heap.size + 1, 3, none⟩ = some (.int .i64 k) := hre.cell 3
    clear hg1 ct hbw
    go_wp2_with (refine wpList_store_fresh w1 rfl 35 _ _ rfl _ #[.int .i64 kd, .int .i64 nm, .string s, .slice A1 m cp] _ rfl rfl rfl term_size (ones4 _ _ _ _ _ _) ?_)
    refine wp_region_held_drew (S := fun X => X.cell? ⟨w.heap.size + 1, 3, none⟩ = some (.int .i64 k)) (by kernel_rfl) hcq (fun hHeld => ?_)
    first | (refine wpAnyH_take (i := 0) (v := _) rfl (by kernel_rfl) (by kernel_rfl) (by kernel_rfl) (fun _ _ _ h => h) (Or.inr ⟨?_, rfl⟩) (by assumption) ?_; rfl) | (refine wpAnyH_take (i := 0) (v := ?_) rfl (by kernel_rfl) (by kernel_rfl) (by kernel_rfl) (fun _ _ _ h => h) (Or.inl ⟨?_, ?_⟩) (by assumption) ?_; rotate_left; rfl; focus (intro w hSw; (try dsimp only at hSw); go_simp; all_goals (with_reducible rfl)))
    (try simp only [List.getElem_toArray, List.getElem_cons_zero, List.getElem_cons_succ, Act.put, List.setIfInBounds_toArray, List.set_cons_zero, List.set_cons_succ])
    first | (refine wpAnyH_take (i := 1) (v := _) rfl (by kernel_rfl) (by kernel_rfl) (by kernel_rfl) (fun _ _ _ h => h) (Or.inr ⟨?_, rfl⟩) (by assumption) ?_; rfl) | (refine wpAnyH_take (i := 1) (v := ?_) rfl (by kernel_rfl) (by kernel_rfl) (by kernel_rfl) (fun _ _ _ h => h) (Or.inl ⟨?_, ?_⟩) (by assumption) ?_; rotate_left; rfl; focus (intro w hSw; (try dsimp only at hSw); go_simp; all_goals (with_reducible rfl)))
    (try simp only [List.getElem_toArray, List.getElem_cons_zero, List.getElem_cons_succ, Act.put, List.setIfInBounds_toArray, List.set_cons_zero, List.set_cons_succ])
    first | (refine wpAnyH_take (i := 2) (v := _) rfl (by kernel_rfl) (by kernel_rfl) (by kernel_rfl) (fun _ _ _ h => h) (Or.inr ⟨?_, rfl⟩) (by assumption) ?_; rfl) | (refine wpAnyH_take (i := 2) (v := ?_) rfl (by kernel_rfl) (by kernel_rfl) (by kernel_rfl) (fun _ _ _ h => h) (Or.inl ⟨?_, ?_⟩) (by assumption) ?_; rotate_left; rfl; focus (intro w hSw; (try dsimp only at hSw); go_simp; all_goals (with_reducible rfl)))
    (try simp only [List.getElem_toArray, List.getElem_cons_zero, List.getElem_cons_succ, Act.put, List.setIfInBounds_toArray, List.set_cons_zero, List.set_cons_succ])
    first | (refine wpAnyH_take (i := 3) (v := _) rfl (by kernel_rfl) (by kernel_rfl) (by kernel_rfl) (fun _ _ _ h => h) (Or.inr ⟨?_, rfl⟩) (by assumption) ?_; rfl) | (refine wpAnyH_take (i := 3) (v := ?_) rfl (by kernel_rfl) (by kernel_rfl) (by kernel_rfl) (fun _ _ _ h => h) (Or.inl ⟨?_, ?_⟩) (by assumption) ?_; rotate_left; rfl; focus (intro w hSw; (try dsimp only at hSw); go_simp; all_goals (with_reducible rfl)))
    (try simp only [List.getElem_toArray, List.getElem_cons_zero, List.getElem_cons_succ, Act.put, List.setIfInBounds_toArray, List.set_cons_zero, List.set_cons_succ])
    first | (refine wpAnyH_take (i := 4) (v := _) rfl (by kernel_rfl) (by kernel_rfl) (by kernel_rfl) (fun _ _ _ h => h) (Or.inr ⟨?_, rfl⟩) (by assumption) ?_; rfl) | (refine wpAnyH_take (i := 4) (v := ?_) rfl (by kernel_rfl) (by kernel_rfl) (by kernel_rfl) (fun _ _ _ h => h) (Or.inl ⟨?_, ?_⟩) (by assumption) ?_; rotate_left; rfl; focus (intro w hSw; (try dsimp only at hSw); go_simp; all_goals (with_reducible rfl)))
    (try simp only [List.getElem_toArray, List.getElem_cons_zero, List.getElem_cons_succ, Act.put, List.setIfInBounds_toArray, List.set_cons_zero, List.set_cons_succ])
    refine wpAnyH_ready (rs := [5]) (by kernel_rfl) (by simp) ?_
    refine AllReadyH.cons rfl (fun K hK => ?_) AllReadyH.nil
    rw [if_pos (by rfl)]
    have hbq9 := hbq.drew
    refine wp_store_blk 35 _ _ rfl w.heap.size _ #[.int .i64 0, .int .i64 0, .string ⟨#[]⟩, .slice none 0 0] _ rfl rfl hbq9 rfl term_size (ones4 _ _ _ _ _ _) ?_
    have hne2 : w.heap.size + 1 ≠ w.heap.size := by omega
    refine hK.out _ _ ((hk2.drew.setOther hne2 (#[.int .i64 0, .int .i64 0, .string ⟨#[]⟩, .slice none 0 0])).cell 3) (fun hHeld2 => ?_)
    clear hK K
    (try simp only [List.getElem_toArray, List.getElem_cons_zero, List.getElem_cons_succ, Act.put, List.setIfInBounds_toArray, List.set_cons_zero, List.set_cons_succ])
    first | (refine wpAnyH_take (i := 6) (v := _) rfl (by kernel_rfl) (by kernel_rfl) (by kernel_rfl) (fun _ _ _ h => h) (Or.inr ⟨?_, rfl⟩) (by assumption) ?_; rfl) | (refine wpAnyH_take (i := 6) (v := ?_) rfl (by kernel_rfl) (by kernel_rfl) (by kernel_rfl) (fun _ _ _ h => h) (Or.inl ⟨?_, ?_⟩) (by assumption) ?_; rotate_left; rfl; focus (intro w hSw; (try dsimp only at hSw); go_simp; all_goals (with_reducible rfl)))
    (try simp only [List.getElem_toArray, List.getElem_cons_zero, List.getElem_cons_succ, Act.put, List.setIfInBounds_toArray, List.set_cons_zero, List.set_cons_succ])
    first | (refine wpAnyH_take (i := 7) (v := _) rfl (by kernel_rfl) (by kernel_rfl) (by kernel_rfl) (fun _ _ _ h => h) (Or.inr ⟨?_, rfl⟩) (by assumption) ?_; rfl) | (refine wpAnyH_take (i := 7) (v := ?_) rfl (by kernel_rfl) (by kernel_rfl) (by kernel_rfl) (fun _ _ _ h => h) (Or.inl ⟨?_, ?_⟩) (by assumption) ?_; rotate_left; rfl; focus (intro w hSw; (try dsimp only at hSw); go_simp; all_goals (with_reducible rfl)))
    (try simp only [List.getElem_toArray, List.getElem_cons_zero, List.getElem_cons_succ, Act.put, List.setIfInBounds_toArray, List.set_cons_zero, List.set_cons_succ])
    refine wpAnyH_done (by kernel_rfl) ?_ _
    go_wp2_with fail
    refine bodyPost_ret (results_c_tt Try.results60 _ _ w.heap.size _ _ _ _ rfl hbq9.setRow) rfl ?_
    rw [hv.out]
    exact ⟨rfl, below_setRow (below_drewN HBW.out 1) (Nat.le_refl _) _⟩
  | ok r =>
    obtain ⟨t, q, n'⟩ := r
    have hv : Hid (takeT l = .ok (t, q)) := by show _ = _; rw [takeT, hD]
    rw [hD] at ct
    clear hD hrd hb1 hb2 hr hbr hsz hs2
    go_enter Try.func60, Try.ntmps60
    go_wp2_with fail
    refine ct.out.mono ?_
    rintro _ w1 ⟨hg1, kd, nm, s, A1, m, cp, rfl, htv, hr1⟩
    have hbq := (HBR.out.grown hg1 (fun e => by injection e with e; omega)).alloc (.cells #[.int .i64 kd, .int .i64 nm, .string s, .slice A1 m cp] 35)
    have hbt := Blk.new w1 35 #[.int .i64 kd, .int .i64 nm, .string s, .slice A1 m cp]
    have hbw := only_below HB2.out hg1 (by omega)
    have HBW := Lib.hid (hbw.alloc hbw.size (.cells #[.int .i64 kd, .int .i64 nm, .string s, .slice A1 m cp] 35))
    have hql := Lib.hid hr1.2.1
    obtain ⟨_, _, _, A2, c2, _, _, hre, _⟩ := hr1
    have hk2 := hre.alloc (.cells #[.int .i64 kd, .int .i64 nm, .string s, .slice A1 m cp] 35)
    have hcq : (w1.alloc (.cells #[.int .i64 kd, .int .i64 nm, .string s, .slice A1 m cp] 35)).cell? ⟨w.heap.size + 1, 1, none⟩ = some (.int .i64 (q : Int)) := hk2.cell 1
    have hcq3 : (w1.alloc (.cells #[.int .i64 kd, .int .i64 nm, .string s, .slice A1 m cp] 35)).cell? ⟨w.heap.size + 1, 3, none⟩ = some (.int .i64 0) := hk2.cell 3
    have htw := htv.grown (only_alloc (only_refl w1 none) (.cells #[.int .i64 kd, .int .i64 nm, .string s, .slice A1 m cp] 35)) (fun q e => by cases e)
    rw [HS2.out] at htw
    have HTW := Lib.hid htw
    have hgl1 : w.heap.size + 1 < w1.heap.size := hre.lt
    have hcq1 : w1.cell? ⟨w.heap.size + 1, 1, none⟩ = some (.int .i64 (q : Int)) := hre.cell 1
    have hcq13 : w1.cell? ⟨w.heap.size + 1, 3, none⟩ = some (.int .i64 0) := hre.cell 3
    clear hg1 ct hbw htv htw
    go_wp2_with (refine wpList_store_fresh w1 rfl 35 _ _ rfl _ #[.int .i64 kd, .int .i64 nm, .string s, .slice A1 m cp] _ rfl rfl rfl term_size (ones4 _ _ _ _ _ _) ?_)
    refine wp_region_held_drew (S := fun X => Blk X w1.heap.size 35 #[.int .i64 kd, .int .i64 nm, .string s, .slice A1 m cp] ∧ X.cell? ⟨w.heap.size + 1, 1, none⟩ = some (.int .i64 (q : Int))) (by kernel_rfl) ⟨hbt.drew, hcq⟩ (fun hHeld => ?_)
    refine wpAnyH_take (i := 0) (v := _) rfl (by kernel_rfl) (by kernel_rfl) (by kernel_rfl) (fun _ _ _ h => h) (yieldsIf_load_term (by rfl) _ rfl ⟨w1.heap.size, 0, none⟩ rfl _ _ _ _ (fun w h => blk_cells h.1)) (by assumption) ?_
    (try simp only [List.getElem_toArray, List.getElem_cons_zero, List.getElem_cons_succ, Act.put, List.setIfInBounds_toArray, List.set_cons_zero, List.set_cons_succ])
    first | (refine wpAnyH_take (i := 1) (v := _) rfl (by kernel_rfl) (by kernel_rfl) (by kernel_rfl) (fun _ _ _ h => h) (Or.inr ⟨?_, rfl⟩) (by assumption) ?_; rfl) | (refine wpAnyH_take (i := 1) (v := ?_) rfl (by kernel_rfl) (by kernel_rfl) (by kernel_rfl) (fun _ _ _ h => h) (Or.inl ⟨?_, ?_⟩) (by assumption) ?_; rotate_left; rfl; focus (intro w hSw; (try dsimp only at hSw); go_simp; all_goals (with_reducible rfl)))
    (try simp only [List.getElem_toArray, List.getElem_cons_zero, List.getElem_cons_succ, Act.put, List.setIfInBounds_toArray, List.set_cons_zero, List.set_cons_succ])
    first | (refine wpAnyH_take (i := 2) (v := _) rfl (by kernel_rfl) (by kernel_rfl) (by kernel_rfl) (fun _ _ _ h => h) (Or.inr ⟨?_, rfl⟩) (by assumption) ?_; rfl) | (refine wpAnyH_take (i := 2) (v := ?_) rfl (by kernel_rfl) (by kernel_rfl) (by kernel_rfl) (fun _ _ _ h => h) (Or.inl ⟨?_, ?_⟩) (by assumption) ?_; rotate_left; rfl; focus (intro w hSw; (try dsimp only at hSw); go_simp; all_goals (with_reducible rfl)))
    (try simp only [List.getElem_toArray, List.getElem_cons_zero, List.getElem_cons_succ, Act.put, List.setIfInBounds_toArray, List.set_cons_zero, List.set_cons_succ])
    first | (refine wpAnyH_take (i := 3) (v := _) rfl (by kernel_rfl) (by kernel_rfl) (by kernel_rfl) (fun _ _ _ h => h) (Or.inr ⟨?_, rfl⟩) (by assumption) ?_; rfl) | (refine wpAnyH_take (i := 3) (v := ?_) rfl (by kernel_rfl) (by kernel_rfl) (by kernel_rfl) (fun _ _ _ h => h) (Or.inl ⟨?_, ?_⟩) (by assumption) ?_; rotate_left; rfl; focus (intro w hSw; (try dsimp only at hSw); go_simp; all_goals (with_reducible rfl)))
    (try simp only [List.getElem_toArray, List.getElem_cons_zero, List.getElem_cons_succ, Act.put, List.setIfInBounds_toArray, List.set_cons_zero, List.set_cons_succ])
    first | (refine wpAnyH_take (i := 4) (v := _) rfl (by kernel_rfl) (by kernel_rfl) (by kernel_rfl) (fun _ _ _ h => h) (Or.inr ⟨?_, rfl⟩) (by assumption) ?_; rfl) | (refine wpAnyH_take (i := 4) (v := ?_) rfl (by kernel_rfl) (by kernel_rfl) (by kernel_rfl) (fun _ _ _ h => h) (Or.inl ⟨?_, ?_⟩) (by assumption) ?_; rotate_left; rfl; focus (intro w hSw; (try dsimp only at hSw); go_simp; all_goals (with_reducible rfl)))
    (try simp only [List.getElem_toArray, List.getElem_cons_zero, List.getElem_cons_succ, Act.put, List.setIfInBounds_toArray, List.set_cons_zero, List.set_cons_succ])
    refine wpAnyH_ready (rs := [5]) (by kernel_rfl) (by simp) ?_
    refine AllReadyH.cons rfl (fun K hK => ?_) AllReadyH.nil
    rw [if_pos (by rfl)]
    have hbq9 := hbq.drew
    refine wp_store_blk 35 _ _ rfl w.heap.size _ #[.int .i64 kd, .int .i64 nm, .string s, .slice A1 m cp] _ rfl rfl hbq9 rfl term_size (ones4 _ _ _ _ _ _) ?_
    have hne : w1.heap.size ≠ w.heap.size := by omega
    have hne2 : w.heap.size + 1 ≠ w.heap.size := by omega
    refine hK.out _ _ ⟨hHeld.1.setOther hne _, (hk2.drew.setOther hne2 (#[.int .i64 kd, .int .i64 nm, .string s, .slice A1 m cp])).cell 1⟩ (fun hHeld2 => ?_)
    clear hK K
    (try simp only [List.getElem_toArray, List.getElem_cons_zero, List.getElem_cons_succ, Act.put, List.setIfInBounds_toArray, List.set_cons_zero, List.set_cons_succ])
    first | (refine wpAnyH_take (i := 6) (v := _) rfl (by kernel_rfl) (by kernel_rfl) (by kernel_rfl) (fun _ _ _ h => h) (Or.inr ⟨?_, rfl⟩) (by assumption) ?_; rfl) | (refine wpAnyH_take (i := 6) (v := ?_) rfl (by kernel_rfl) (by kernel_rfl) (by kernel_rfl) (fun _ _ _ h => h) (Or.inl ⟨?_, ?_⟩) (by assumption) ?_; rotate_left; rfl; focus (intro w hSw; (try dsimp only at hSw); go_simp; all_goals (with_reducible rfl)))
    (try simp only [List.getElem_toArray, List.getElem_cons_zero, List.getElem_cons_succ, Act.put, List.setIfInBounds_toArray, List.set_cons_zero, List.set_cons_succ])
    first | (refine wpAnyH_take (i := 7) (v := _) rfl (by kernel_rfl) (by kernel_rfl) (by kernel_rfl) (fun _ _ _ h => h) (Or.inr ⟨?_, rfl⟩) (by assumption) ?_; rfl) | (refine wpAnyH_take (i := 7) (v := ?_) rfl (by kernel_rfl) (by kernel_rfl) (by kernel_rfl) (fun _ _ _ h => h) (Or.inl ⟨?_, ?_⟩) (by assumption) ?_; rotate_left; rfl; focus (intro w hSw; (try dsimp only at hSw); go_simp; all_goals (with_reducible rfl)))
    (try simp only [List.getElem_toArray, List.getElem_cons_zero, List.getElem_cons_succ, Act.put, List.setIfInBounds_toArray, List.set_cons_zero, List.set_cons_succ])
    refine wpAnyH_done (by kernel_rfl) ?_ _
    go_wp2_with fail
    refine bodyPost_ret (results_c_tt Try.results60 _ _ w.heap.size _ _ _ _ rfl hbq9.setRow) rfl ?_
    rw [hv.out]
    exact ⟨kd, nm, s, A1, m, cp, rfl, ((HTW.out.below (below_drewN (Below.refl _ _) 1)).grown (setRow_only _ w.heap.size _) (fun q e => by injection e with e; omega)).low (Nat.le_add_right _ 2), hql.out, below_setRow (below_drewN HBW.out 1) (Nat.le_refl _) _⟩
set_option maxHeartbeats 4000000 in
theorem rone_walk (l : List UInt8) (A : Option Addr) (c : Nat) (w : World) (hl : l.length ≤ 1000000) (hc : l.length ≤ c) (hc2 : c ≤ 9223372036854775807) (hr : Reads w w.heap.size 1 A l.length (Lib.byteCells l)) :
    Calls Try.prog 50 #[.slice A l.length c] w (OneR (oneT l) w) := by
  have hb1 := (Below.refl w.heap.size w).alloc (Nat.le_refl _) (.cells #[.int .i64 0, .int .i64 0, .string ⟨#[]⟩, .slice none 0 0] 35)
  have hbr := Blk.new w 35 #[.int .i64 0, .int .i64 0, .string ⟨#[]⟩, .slice none 0 0]
  have ct := Lib.hid (rtake_walk l A c _ hl hc hc2 ((hr.below hb1).more hb1.size))
  have HB1 := Lib.hid hb1
  have HBR := Lib.hid hbr
  cases hD : takeT l with
  | error k =>
    have hk := takeT_err hD
    have hv : Hid (oneT l = .error k) := by show _ = _; rw [oneT, hD]
    rw [hD] at ct
    have k0 : (k == 0) = false := by rw [beq_eq_false_iff_ne]; omega
    have k1 : (k != 0) = true := by rw [bne, k0]; rfl
    clear hD hb1 hbr hr hk
    go_enter Try.func50, Try.ntmps50
    go_wp2_with fail
    refine ct.out.mono ?_
    rintro _ w1 ⟨rfl, hbn⟩
    have hbq := (HBR.out.below hbn (by simp)).alloc (.cells #[.int .i64 0, .int .i64 0, .string ⟨#[]⟩, .slice none 0 0] 35)
    have hbw := below_next HB1.out hbn
    have HBW := Lib.hid (hbw.alloc hbw.size (.cells #[.int .i64 0, .int .i64 0, .string ⟨#[]⟩, .slice none 0 0] 35))
    clear hbn ct hbw
    go_wp2_with (first
      | (refine wpList_store_fresh w1 rfl 35 _ _ rfl _ #[.int .i64 0, .int .i64 0, .string ⟨#[]⟩, .slice none 0 0] _ rfl rfl rfl term_size (ones4 _ _ _ _ _ _) ?_)
      | (refine wpList_store_blk rfl 35 _ _ rfl w.heap.size _ #[.int .i64 0, .int .i64 0, .string ⟨#[]⟩, .slice none 0 0] _ rfl rfl hbq rfl term_size (ones4 _ _ _ _ _ _) ?_))
    refine bodyPost_ret (results_c_t Try.results50 _ _ w.heap.size _ _ _ _ rfl hbq.setRow) rfl ?_
    rw [hv.out]
    exact ⟨rfl, below_setRow HBW.out (Nat.le_refl _) _⟩
  | ok r =>
    obtain ⟨t, q⟩ := r
    rw [hD] at ct
    have HD := Lib.hid hD
    clear hD hb1 hbr hr
    by_cases hq : q < l.length
    · have hv : Hid (oneT l = .error 5) := by show _ = _; rw [oneT, HD.out]; simp only [if_pos hq]
      go_enter Try.func50, Try.ntmps50
      go_wp2_with fail
      refine ct.out.mono ?_
      rintro _ w1 ⟨kd, nm, s, A1, m, cp, rfl, htv, hql, hbn⟩
      have hbq := (HBR.out.below hbn (by simp)).alloc (.cells #[.int .i64 kd, .int .i64 nm, .string s, .slice A1 m cp] 35)
      have hbw := below_next HB1.out hbn
      have HBW := Lib.hid (hbw.alloc hbw.size (.cells #[.int .i64 kd, .int .i64 nm, .string s, .slice A1 m cp] 35))
      clear hbn ct hbw htv
      go_wp2_with (first
        | (refine wpList_store_fresh w1 rfl 35 _ _ rfl _ #[.int .i64 kd, .int .i64 nm, .string s, .slice A1 m cp] _ rfl rfl rfl term_size (ones4 _ _ _ _ _ _) ?_)
        | (refine wpList_store_blk rfl 35 _ _ rfl w.heap.size _ #[.int .i64 0, .int .i64 0, .string ⟨#[]⟩, .slice none 0 0] _ rfl rfl hbq rfl term_size (ones4 _ _ _ _ _ _) ?_))
      refine bodyPost_ret (results_c_t Try.results50 _ _ w.heap.size _ _ _ _ rfl hbq.setRow) rfl ?_
      rw [hv.out]
      exact ⟨rfl, below_setRow HBW.out (Nat.le_refl _) _⟩
    · have hv : Hid (oneT l = .ok t) := by show _ = _; rw [oneT, HD.out]; simp only [if_neg hq]
      go_enter Try.func50, Try.ntmps50
      go_wp2_with fail
      refine ct.out.mono ?_
      rintro _ w1 ⟨kd, nm, s, A1, m, cp, rfl, htv, hql, hbn⟩
      have hbq := (HBR.out.below hbn (by simp)).alloc (.cells #[.int .i64 kd, .int .i64 nm, .string s, .slice A1 m cp] 35)
      have hbt := Blk.new w1 35 #[.int .i64 kd, .int .i64 nm, .string s, .slice A1 m cp]
      have hbw := below_next HB1.out hbn
      have HBW := Lib.hid (hbw.alloc hbw.size (.cells #[.int .i64 kd, .int .i64 nm, .string s, .slice A1 m cp] 35))
      have hz1 : (w.alloc (.cells #[.int .i64 0, .int .i64 0, .string ⟨#[]⟩, .slice none 0 0] 35)).heap.size = w.heap.size + 1 := by simp
      rw [hz1] at htv
      have HTW := Lib.hid (htv.grown (only_alloc (only_refl w1 none) (.cells #[.int .i64 kd, .int .i64 nm, .string s, .slice A1 m cp] 35)) (fun q e => by cases e))
      clear hbn ct hbw htv
      go_wp2_with (first
        | (refine wpList_store_fresh w1 rfl 35 _ _ rfl _ #[.int .i64 kd, .int .i64 nm, .string s, .slice A1 m cp] _ rfl rfl rfl term_size (ones4 _ _ _ _ _ _) ?_)
        | (refine wpList_load_at rfl 35 _ rfl ⟨w1.heap.size, 0, none⟩ rfl [.int .i64 kd, .int .i64 nm, .string s, .slice A1 m cp] _ (blk_cells hbt) Try.underlying35 rfl term_size ?_)
        | (refine wpList_store_blk rfl 35 _ _ rfl w.heap.size _ #[.int .i64 kd, .int .i64 nm, .string s, .slice A1 m cp] _ rfl rfl hbq rfl term_size (ones4 _ _ _ _ _ _) ?_))
      refine bodyPost_ret (results_c_t Try.results50 _ _ w.heap.size _ _ _ _ rfl hbq.setRow) rfl ?_
      rw [hv.out]
      exact ⟨kd, nm, s, A1, m, cp, rfl, (HTW.out.grown (setRow_only _ w.heap.size _) (fun q e => by injection e with e; omega)).low (Nat.le_succ _), below_setRow HBW.out (Nat.le_refl _) _⟩
end Go.Proofs.Ytekpdkjkkglcjaa

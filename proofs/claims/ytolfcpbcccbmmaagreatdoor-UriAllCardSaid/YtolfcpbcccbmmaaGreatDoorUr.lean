/- countersignlaw11.Texts: addresses, right and wrong. No condition of its own. -/
import Derived.Test.YtolfcpbcccbmmaaGreatDoorUq
set_option linter.unusedVariables false
set_option linter.unusedSimpArgs false
set_option maxRecDepth 20000
namespace Go.Proofs.YtolfcpbcccbmmaaGreatDoor
open Go.RowKit Pc
/-- a row of texts, each as its bytes stand -/
def RowT (w : World) (g : Nat) (L : List ByteArray) : Prop := g < w.heap.size ∧ ∀ j x, L[j]? = some x → w.cell? ⟨g, j, none⟩ = some (.string x)
theorem RowT.below {w w' : World} {g : Nat} {L : List ByteArray} (h : RowT w g L) {B : Nat} (hb : Below B w w') (hg : g < B) : RowT w' g L :=
  ⟨by have := h.1; have := hb.size; omega, fun j p hp => (hb.cell hg).trans (h.2 j p hp)⟩
theorem RowT.new (w : World) (t : TypeId) (L : List ByteArray) : RowT (w.alloc (.cells (L.map Value.string).toArray t)) w.heap.size L :=
  ⟨by simp, fun j x hx => by rw [(Blk.new w t _).cell j]; simp [hx]⟩
def pickL : List ByteArray := [⟨#[65]⟩, ⟨#[]⟩, ⟨#[97, 32, 98]⟩, ⟨#[97, 115, 58, 49]⟩, ⟨#[97, 115, 46]⟩, ⟨#[45]⟩]
def TextsR (w : World) (e : Ending) (w' : World) : Prop := ∃ (g : Nat) (L : List ByteArray), e = .returned (.slice (some ⟨g, 0, none⟩) 13 13) ∧ L.length = 13 ∧ RowT w' g L ∧ (∀ y ∈ L, y.size ≤ 5000) ∧ Below w.heap.size w w'
set_option maxHeartbeats 16000000 in
set_option maxRecDepth 100000 in
theorem texts_walk (zs : List Int) (A : Option Addr) (c : Nat) (x : ByteArray) (hx : x.size ≤ 300) (w : World) (hr : IntsIn w A c zs) :
    Calls Tryz.prog 5 #[.slice A zs.length c, .string x] w (TextsR w) := by
  have hT := tape_new hr
  have hb1 := (Below.refl w.heap.size w).alloc (Nat.le_refl _) (.cells #[.slice A zs.length c, .int .i64 0] 41)
  have H := Lib.hid hr
  have cu := Lib.hid (uri2_walk zs A c _ (hr.below hb1))
  clear hr
  go_enter Tryz.func5, Tryz.ntmps5
  go_wp2_with fail
  refine cu.out.mono ?_
  rintro _ w2 ⟨u, A2, c2, rfl, hm, hu, hown, hbn⟩
  rw [show (w.alloc (.cells #[.slice A zs.length c, .int .i64 0] 41)).heap.size = w.heap.size + 1 by simp] at hown
  have HO3 := Lib.hid (hown.alloc (.cells (u.arr A2 c2) 28))
  obtain ⟨p1, p2, p3, p4, p5⟩ := mayB_parts hm
  have hb2 := below_next hb1 hbn
  have hT2 := hT.below (hbn.mono (by simp))
  have HT3 := Lib.hid (hT2.below ((Below.refl _ _).alloc (show w.heap.size + 1 ≤ w2.heap.size by have := hbn.size; simp at this; omega) (.cells (u.arr A2 c2) 28)))
  have HB3 := Lib.hid (hb2.alloc hb2.size (.cells (u.arr A2 c2) 28))
  have HK3 := Lib.hid (Blk.new w2 28 (u.arr A2 c2))
  have HU3 := Lib.hid (hu.below ((Below.refl w2.heap.size w2).alloc (Nat.le_refl _) (.cells (u.arr A2 c2) 28)))
  have hwl : w.heap.size < w2.heap.size := by have := hbn.size; simp at this; omega
  clear hT hb1 hbn hb2 hT2 hu cu hown
  go_wp2_with (first | (refine wpList_store_ur w2 rfl _ _ rfl rfl rfl ?_) | (refine wpList_load_ur rfl _ rfl w2.heap.size rfl u A2 c2 HK3.out ?_))
  refine (rprintu_walk u A2 c2 _ HU3.out (by omega)).mono ?_
  rintro _ w4 ⟨rfl, hbn⟩
  have HB4 := Lib.hid (below_next HB3.out hbn)
  have HK4 := Lib.hid (HK3.out.below hbn HK3.out.lt)
  have HU4 := Lib.hid (HU3.out.below hbn)
  have HO4 := Lib.hid (ownsRow_below HO3.out hbn)
  have hT4 := HT3.out.below (hbn.mono (by simp; omega))
  have hpe : printE u = uriL u := if_pos hm
  rw [hpe]
  have hul : (uriL u).length = 8 + u.h.length + (targetL u).length := by rw [uriL, List.length_append, List.length_append]; rfl
  have hsz := size_mks (uriL u)
  obtain ⟨s, hs⟩ : ∃ s : ByteArray, (⟨(uriL u).toArray⟩ : ByteArray) = s := ⟨_, rfl⟩
  rw [hs] at hsz ⊢
  have hs1 : 8 ≤ s.size := by omega
  have hs2 : s.size ≤ 1024 := by omega
  have cn := Lib.hid (next_walk zs w.heap.size 0 s.size w4 hT4 (by omega))
  have hnp := nextR_pos zs 0 s.size (by omega)
  obtain ⟨r, er⟩ : ∃ r : Nat, nextR zs 0 s.size = r := ⟨(nextR zs 0 s.size).toNat, by omega⟩
  rw [er] at cn hnp
  have hrs : r < s.size := by omega
  clear hnp er hbn hs hsz hul hpe HB3 HK3 HU3 HT3 hT4
  go_wp2_with fail
  refine cn.out.mono ?_
  rintro _ w5 ⟨rfl, ht5, hg5, hs5⟩
  have HB5 := Lib.hid (HB4.out.grown hg5 HB4.out.size (fun q e => by injection e with e; omega))
  have HK5 := Lib.hid (HK4.out.grown hg5 (fun e => by injection e with e; omega))
  have HO5 := Lib.hid (own_only HO4.out hg5 (Nat.lt_succ_self _))
  have HT5 := Lib.hid ht5
  have HUs := HU4.out.2
  clear ht5 hg5 hs5 cn HB4 HK4 HO4 HU4 HO3
  obtain ⟨hu1, hu2, hu3⟩ := HUs
  have k1 : ¬ 9223372036854775807 < 8 + x.size := by omega
  have k2 : ¬ 9223372036854775807 < s.size + x.size := by omega
  have k3 : ¬ 9223372036854775807 < 8 + u.h.length := by omega
  have k4 : ¬ 9223372036854775807 < 8 + u.h.length + 1 := by omega
  have k5 : ¬ 9223372036854775807 < 8 + u.h.length + 1 + x.size := by omega
  have k6 : ¬ 9223372036854775807 < u.p.length + 1 := by omega
  have hri : (r : Int) ≤ (s.size : Int) := by omega
  have hy := getD_size (L := pickL) (n := 4) (by decide) (nextR zs (nextA zs 0 s.size) pickL.length).toNat
  have hgl5 := HT5.out.lt
  have cP := pick_walk zs w.heap.size (nextA zs 0 s.size) (some ⟨w5.drew.heap.size, 0, none⟩) 6 (w5.drew.heap.size + 1) pickL (by decide) (by decide) (by decide) (w5.drew.alloc (.cells #[.string ⟨#[65]⟩, .string ⟨#[]⟩, .string ⟨#[97, 32, 98]⟩, .string ⟨#[97, 115, 58, 49]⟩, .string ⟨#[97, 115, 46]⟩, .string ⟨#[45]⟩] 9)) ((HT5.out.drewN 1).grown (only_alloc (only_refl _ none) _) (fun r e => by cases e)) (reads_row w5.drew 9 (pickL.map Value.string)) (by simp) (fun p e => by injection e with e; subst e; show w5.heap.size ≠ w.heap.size; omega)
  generalize pickL.getD (nextR zs (nextA zs 0 s.size) pickL.length).toNat ByteArray.empty = y at hy cP
  generalize nextA zs (nextA zs 0 s.size) pickL.length = kk at cP
  have CP := Lib.hid (show Calls Tryz.prog 18 #[.pointer (some ⟨w.heap.size, 0, none⟩), .slice (some ⟨w5.heap.size, 0, none⟩) 6 6] (w5.alloc (.cells #[.string ⟨#[65]⟩, .string ⟨#[]⟩, .string ⟨#[97, 32, 98]⟩, .string ⟨#[97, 115, 58, 49]⟩, .string ⟨#[97, 115, 46]⟩, .string ⟨#[45]⟩] 9)).drew _ from cP)
  clear cP
  have hUA : Hid (∀ W : World, W.ownsRow (w.heap.size + 1) 57 2 (.slice A2 u.q.length c2) u.q.length (fCells u.q) → UrAt W A2 c2 u) := fun W ho => by
    obtain ⟨A6, c6, e6, hf6⟩ := FsAt.own ho (by omega)
    injection e6 with eA _ ec
    subst eA ec
    exact ⟨hf6, hu1, hu2, hu3⟩
  have k7 : ¬ 9223372036854775807 < 8 + y.size := by omega
  have k8 : ¬ 9223372036854775807 < 8 + y.size + u.p.length := by omega
  have hte : targetE u = targetL u := if_pos hm
  have htz := size_mks (targetE u)
  rw [hte] at htz
  obtain ⟨tg, htg⟩ : ∃ tg : ByteArray, (⟨(targetE u).toArray⟩ : ByteArray) = tg := ⟨_, rfl⟩
  have htz2 : tg.size ≤ 1024 := by rw [← htg, hte, htz]; omega
  have ctg := Lib.hid (fun W (ho : World.ownsRow W (w.heap.size + 1) 57 2 (.slice A2 u.q.length c2) u.q.length (fCells u.q)) => rttarget_walk u A2 c2 W (hUA.out W ho) (by omega))
  rw [htg] at ctg
  have k10 : ¬ 9223372036854775807 < tg.size + 1 := by omega
  have ctx := Lib.hid (show ∀ W, IntsIn W A c zs → Calls Tryz.prog 19 #[.slice A zs.length c, .int .i64 9] W fun e w' => ∃ s : ByteArray, s.size ≤ 4 * 9 ∧ e = .returned (.string s) ∧ Below W.heap.size W w' from fun W h => text_walk zs A c 9 (by decide) W h)
  clear htg hte htz
  go_wp2_with fail
  have hS0 := boxU HK5.out.drew
  refine wp_region_held_drew (S := fun W => Blk W w2.heap.size 28 (u.arr A2 c2) ∧ W.cell? ⟨w2.heap.size, 0, none⟩ = some (.string ⟨u.h.toArray⟩) ∧ W.cell? ⟨w2.heap.size, 1, none⟩ = some (.string ⟨u.p.toArray⟩) ∧ W.cell? ⟨w2.heap.size, 2, none⟩ = some (.slice A2 u.q.length c2)) (by kernel_rfl) hS0 (fun hHeld => ?_)
  first | (refine wpAnyH_take (i := 0) (v := _) rfl (by kernel_rfl) (by kernel_rfl) (by kernel_rfl) (fun _ _ _ h => h) (Or.inr ⟨?_, rfl⟩) (by assumption) ?_; rfl) | (refine wpAnyH_take (i := 0) (v := ?_) rfl (by kernel_rfl) (by kernel_rfl) (by kernel_rfl) (fun _ _ _ h => h) (Or.inl ⟨?_, ?_⟩) (by assumption) ?_; rotate_left; rfl; focus (intro w hSw; (try dsimp only at hSw); go_simp; all_goals (with_reducible rfl)))
  (try simp only [List.getElem_toArray, List.getElem_cons_zero, List.getElem_cons_succ, Act.put, List.setIfInBounds_toArray, List.set_cons_zero, List.set_cons_succ])
  first | (refine wpAnyH_take (i := 1) (v := _) rfl (by kernel_rfl) (by kernel_rfl) (by kernel_rfl) (fun _ _ _ h => h) (Or.inr ⟨?_, rfl⟩) (by assumption) ?_; rfl) | (refine wpAnyH_take (i := 1) (v := ?_) rfl (by kernel_rfl) (by kernel_rfl) (by kernel_rfl) (fun _ _ _ h => h) (Or.inl ⟨?_, ?_⟩) (by assumption) ?_; rotate_left; rfl; focus (intro w hSw; (try dsimp only at hSw); go_simp; all_goals (with_reducible rfl)))
  (try simp only [List.getElem_toArray, List.getElem_cons_zero, List.getElem_cons_succ, Act.put, List.setIfInBounds_toArray, List.set_cons_zero, List.set_cons_succ])
  first | (refine wpAnyH_take (i := 2) (v := _) rfl (by kernel_rfl) (by kernel_rfl) (by kernel_rfl) (fun _ _ _ h => h) (Or.inr ⟨?_, rfl⟩) (by assumption) ?_; rfl) | (refine wpAnyH_take (i := 2) (v := ?_) rfl (by kernel_rfl) (by kernel_rfl) (by kernel_rfl) (fun _ _ _ h => h) (Or.inl ⟨?_, ?_⟩) (by assumption) ?_; rotate_left; rfl; focus (intro w hSw; (try dsimp only at hSw); go_simp; all_goals (with_reducible rfl)))
  (try simp only [List.getElem_toArray, List.getElem_cons_zero, List.getElem_cons_succ, Act.put, List.setIfInBounds_toArray, List.set_cons_zero, List.set_cons_succ])
  first | (refine wpAnyH_take (i := 3) (v := _) rfl (by kernel_rfl) (by kernel_rfl) (by kernel_rfl) (fun _ _ _ h => h) (Or.inr ⟨?_, rfl⟩) (by assumption) ?_; rfl) | (refine wpAnyH_take (i := 3) (v := ?_) rfl (by kernel_rfl) (by kernel_rfl) (by kernel_rfl) (fun _ _ _ h => h) (Or.inl ⟨?_, ?_⟩) (by assumption) ?_; rotate_left; rfl; focus (intro w hSw; (try dsimp only at hSw); go_simp; all_goals (with_reducible rfl)))
  (try simp only [List.getElem_toArray, List.getElem_cons_zero, List.getElem_cons_succ, Act.put, List.setIfInBounds_toArray, List.set_cons_zero, List.set_cons_succ])
  first | (refine wpAnyH_take (i := 4) (v := _) rfl (by kernel_rfl) (by kernel_rfl) (by kernel_rfl) (fun _ _ _ h => h) (Or.inr ⟨?_, rfl⟩) (by assumption) ?_; rfl) | (refine wpAnyH_take (i := 4) (v := ?_) rfl (by kernel_rfl) (by kernel_rfl) (by kernel_rfl) (fun _ _ _ h => h) (Or.inl ⟨?_, ?_⟩) (by assumption) ?_; rotate_left; rfl; focus (intro w hSw; (try dsimp only at hSw); go_simp; all_goals (with_reducible rfl)))
  (try simp only [List.getElem_toArray, List.getElem_cons_zero, List.getElem_cons_succ, Act.put, List.setIfInBounds_toArray, List.set_cons_zero, List.set_cons_succ])
  first | (refine wpAnyH_take (i := 5) (v := _) rfl (by kernel_rfl) (by kernel_rfl) (by kernel_rfl) (fun _ _ _ h => h) (Or.inr ⟨?_, rfl⟩) (by assumption) ?_; rfl) | (refine wpAnyH_take (i := 5) (v := ?_) rfl (by kernel_rfl) (by kernel_rfl) (by kernel_rfl) (fun _ _ _ h => h) (Or.inl ⟨?_, ?_⟩) (by assumption) ?_; rotate_left; rfl; focus (intro w hSw; (try dsimp only at hSw); go_simp; all_goals (with_reducible rfl)))
  (try simp only [List.getElem_toArray, List.getElem_cons_zero, List.getElem_cons_succ, Act.put, List.setIfInBounds_toArray, List.set_cons_zero, List.set_cons_succ])
  first | (refine wpAnyH_take (i := 6) (v := _) rfl (by kernel_rfl) (by kernel_rfl) (by kernel_rfl) (fun _ _ _ h => h) (Or.inr ⟨?_, rfl⟩) (by assumption) ?_; rfl) | (refine wpAnyH_take (i := 6) (v := ?_) rfl (by kernel_rfl) (by kernel_rfl) (by kernel_rfl) (fun _ _ _ h => h) (Or.inl ⟨?_, ?_⟩) (by assumption) ?_; rotate_left; rfl; focus (intro w hSw; (try dsimp only at hSw); go_simp; all_goals (with_reducible rfl)))
  (try simp only [List.getElem_toArray, List.getElem_cons_zero, List.getElem_cons_succ, Act.put, List.setIfInBounds_toArray, List.set_cons_zero, List.set_cons_succ])
  first | (refine wpAnyH_take (i := 7) (v := _) rfl (by kernel_rfl) (by kernel_rfl) (by kernel_rfl) (fun _ _ _ h => h) (Or.inr ⟨?_, rfl⟩) (by assumption) ?_; rfl) | (refine wpAnyH_take (i := 7) (v := ?_) rfl (by kernel_rfl) (by kernel_rfl) (by kernel_rfl) (fun _ _ _ h => h) (Or.inl ⟨?_, ?_⟩) (by assumption) ?_; rotate_left; rfl; focus (intro w hSw; (try dsimp only at hSw); go_simp; all_goals (with_reducible rfl)))
  (try simp only [List.getElem_toArray, List.getElem_cons_zero, List.getElem_cons_succ, Act.put, List.setIfInBounds_toArray, List.set_cons_zero, List.set_cons_succ])
  first | (refine wpAnyH_take (i := 8) (v := _) rfl (by kernel_rfl) (by kernel_rfl) (by kernel_rfl) (fun _ _ _ h => h) (Or.inr ⟨?_, rfl⟩) (by assumption) ?_; rfl) | (refine wpAnyH_take (i := 8) (v := ?_) rfl (by kernel_rfl) (by kernel_rfl) (by kernel_rfl) (fun _ _ _ h => h) (Or.inl ⟨?_, ?_⟩) (by assumption) ?_; rotate_left; rfl; focus (intro w hSw; (try dsimp only at hSw); go_simp; all_goals (with_reducible rfl)))
  (try simp only [List.getElem_toArray, List.getElem_cons_zero, List.getElem_cons_succ, Act.put, List.setIfInBounds_toArray, List.set_cons_zero, List.set_cons_succ])
  first | (refine wpAnyH_take (i := 9) (v := _) rfl (by kernel_rfl) (by kernel_rfl) (by kernel_rfl) (fun _ _ _ h => h) (Or.inr ⟨?_, rfl⟩) (by assumption) ?_; rfl) | (refine wpAnyH_take (i := 9) (v := ?_) rfl (by kernel_rfl) (by kernel_rfl) (by kernel_rfl) (fun _ _ _ h => h) (Or.inl ⟨?_, ?_⟩) (by assumption) ?_; rotate_left; rfl; focus (intro w hSw; (try dsimp only at hSw); go_simp; all_goals (with_reducible rfl)))
  (try simp only [List.getElem_toArray, List.getElem_cons_zero, List.getElem_cons_succ, Act.put, List.setIfInBounds_toArray, List.set_cons_zero, List.set_cons_succ])
  first | (refine wpAnyH_take (i := 10) (v := _) rfl (by kernel_rfl) (by kernel_rfl) (by kernel_rfl) (fun _ _ _ h => h) (Or.inr ⟨?_, rfl⟩) (by assumption) ?_; rfl) | (refine wpAnyH_take (i := 10) (v := ?_) rfl (by kernel_rfl) (by kernel_rfl) (by kernel_rfl) (fun _ _ _ h => h) (Or.inl ⟨?_, ?_⟩) (by assumption) ?_; rotate_left; rfl; focus (intro w hSw; (try dsimp only at hSw); go_simp; all_goals (with_reducible rfl)))
  (try simp only [List.getElem_toArray, List.getElem_cons_zero, List.getElem_cons_succ, Act.put, List.setIfInBounds_toArray, List.set_cons_zero, List.set_cons_succ])
  first | (refine wpAnyH_take (i := 11) (v := _) rfl (by kernel_rfl) (by kernel_rfl) (by kernel_rfl) (fun _ _ _ h => h) (Or.inr ⟨?_, rfl⟩) (by assumption) ?_; rfl) | (refine wpAnyH_take (i := 11) (v := ?_) rfl (by kernel_rfl) (by kernel_rfl) (by kernel_rfl) (fun _ _ _ h => h) (Or.inl ⟨?_, ?_⟩) (by assumption) ?_; rotate_left; rfl; focus (intro w hSw; (try dsimp only at hSw); go_simp; all_goals (with_reducible rfl)))
  (try simp only [List.getElem_toArray, List.getElem_cons_zero, List.getElem_cons_succ, Act.put, List.setIfInBounds_toArray, List.set_cons_zero, List.set_cons_succ])
  first | (refine wpAnyH_take (i := 12) (v := _) rfl (by kernel_rfl) (by kernel_rfl) (by kernel_rfl) (fun _ _ _ h => h) (Or.inr ⟨?_, rfl⟩) (by assumption) ?_; rfl) | (refine wpAnyH_take (i := 12) (v := ?_) rfl (by kernel_rfl) (by kernel_rfl) (by kernel_rfl) (fun _ _ _ h => h) (Or.inl ⟨?_, ?_⟩) (by assumption) ?_; rotate_left; rfl; focus (intro w hSw; (try dsimp only at hSw); go_simp; all_goals (with_reducible rfl)))
  (try simp only [List.getElem_toArray, List.getElem_cons_zero, List.getElem_cons_succ, Act.put, List.setIfInBounds_toArray, List.set_cons_zero, List.set_cons_succ])
  first | (refine wpAnyH_take (i := 13) (v := _) rfl (by kernel_rfl) (by kernel_rfl) (by kernel_rfl) (fun _ _ _ h => h) (Or.inr ⟨?_, rfl⟩) (by assumption) ?_; rfl) | (refine wpAnyH_take (i := 13) (v := ?_) rfl (by kernel_rfl) (by kernel_rfl) (by kernel_rfl) (fun _ _ _ h => h) (Or.inl ⟨?_, ?_⟩) (by assumption) ?_; rotate_left; rfl; focus (intro w hSw; (try dsimp only at hSw); go_simp; all_goals (with_reducible rfl)))
  (try simp only [List.getElem_toArray, List.getElem_cons_zero, List.getElem_cons_succ, Act.put, List.setIfInBounds_toArray, List.set_cons_zero, List.set_cons_succ])
  first | (refine wpAnyH_take (i := 14) (v := _) rfl (by kernel_rfl) (by kernel_rfl) (by kernel_rfl) (fun _ _ _ h => h) (Or.inr ⟨?_, rfl⟩) (by assumption) ?_; rfl) | (refine wpAnyH_take (i := 14) (v := ?_) rfl (by kernel_rfl) (by kernel_rfl) (by kernel_rfl) (fun _ _ _ h => h) (Or.inl ⟨?_, ?_⟩) (by assumption) ?_; rotate_left; rfl; focus (intro w hSw; (try dsimp only at hSw); go_simp; all_goals (with_reducible rfl)))
  (try simp only [List.getElem_toArray, List.getElem_cons_zero, List.getElem_cons_succ, Act.put, List.setIfInBounds_toArray, List.set_cons_zero, List.set_cons_succ])
  first | (refine wpAnyH_take (i := 15) (v := _) rfl (by kernel_rfl) (by kernel_rfl) (by kernel_rfl) (fun _ _ _ h => h) (Or.inr ⟨?_, rfl⟩) (by assumption) ?_; rfl) | (refine wpAnyH_take (i := 15) (v := ?_) rfl (by kernel_rfl) (by kernel_rfl) (by kernel_rfl) (fun _ _ _ h => h) (Or.inl ⟨?_, ?_⟩) (by assumption) ?_; rotate_left; rfl; focus (intro w hSw; (try dsimp only at hSw); go_simp; all_goals (with_reducible rfl)))
  (try simp only [List.getElem_toArray, List.getElem_cons_zero, List.getElem_cons_succ, Act.put, List.setIfInBounds_toArray, List.set_cons_zero, List.set_cons_succ])
  first | (refine wpAnyH_take (i := 16) (v := _) rfl (by kernel_rfl) (by kernel_rfl) (by kernel_rfl) (fun _ _ _ h => h) (Or.inr ⟨?_, rfl⟩) (by assumption) ?_; rfl) | (refine wpAnyH_take (i := 16) (v := ?_) rfl (by kernel_rfl) (by kernel_rfl) (by kernel_rfl) (fun _ _ _ h => h) (Or.inl ⟨?_, ?_⟩) (by assumption) ?_; rotate_left; rfl; focus (intro w hSw; (try dsimp only at hSw); go_simp; all_goals (with_reducible rfl)))
  (try simp only [List.getElem_toArray, List.getElem_cons_zero, List.getElem_cons_succ, Act.put, List.setIfInBounds_toArray, List.set_cons_zero, List.set_cons_succ])
  first | (refine wpAnyH_take (i := 20) (v := _) rfl (by kernel_rfl) (by kernel_rfl) (by kernel_rfl) (fun _ _ _ h => h) (Or.inr ⟨?_, rfl⟩) (by assumption) ?_; rfl) | (refine wpAnyH_take (i := 20) (v := ?_) rfl (by kernel_rfl) (by kernel_rfl) (by kernel_rfl) (fun _ _ _ h => h) (Or.inl ⟨?_, ?_⟩) (by assumption) ?_; rotate_left; rfl; focus (intro w hSw; (try dsimp only at hSw); go_simp; all_goals (with_reducible rfl)))
  (try simp only [List.getElem_toArray, List.getElem_cons_zero, List.getElem_cons_succ, Act.put, List.setIfInBounds_toArray, List.set_cons_zero, List.set_cons_succ])
  first | (refine wpAnyH_take (i := 21) (v := _) rfl (by kernel_rfl) (by kernel_rfl) (by kernel_rfl) (fun _ _ _ h => h) (Or.inr ⟨?_, rfl⟩) (by assumption) ?_; rfl) | (refine wpAnyH_take (i := 21) (v := ?_) rfl (by kernel_rfl) (by kernel_rfl) (by kernel_rfl) (fun _ _ _ h => h) (Or.inl ⟨?_, ?_⟩) (by assumption) ?_; rotate_left; rfl; focus (intro w hSw; (try dsimp only at hSw); go_simp; all_goals (with_reducible rfl)))
  (try simp only [List.getElem_toArray, List.getElem_cons_zero, List.getElem_cons_succ, Act.put, List.setIfInBounds_toArray, List.set_cons_zero, List.set_cons_succ])
  first | (refine wpAnyH_take (i := 23) (v := _) rfl (by kernel_rfl) (by kernel_rfl) (by kernel_rfl) (fun _ _ _ h => h) (Or.inr ⟨?_, rfl⟩) (by assumption) ?_; rfl) | (refine wpAnyH_take (i := 23) (v := ?_) rfl (by kernel_rfl) (by kernel_rfl) (by kernel_rfl) (fun _ _ _ h => h) (Or.inl ⟨?_, ?_⟩) (by assumption) ?_; rotate_left; rfl; focus (intro w hSw; (try dsimp only at hSw); go_simp; all_goals (with_reducible rfl)))
  (try simp only [List.getElem_toArray, List.getElem_cons_zero, List.getElem_cons_succ, Act.put, List.setIfInBounds_toArray, List.set_cons_zero, List.set_cons_succ])
  first | (refine wpAnyH_take (i := 24) (v := _) rfl (by kernel_rfl) (by kernel_rfl) (by kernel_rfl) (fun _ _ _ h => h) (Or.inr ⟨?_, rfl⟩) (by assumption) ?_; rfl) | (refine wpAnyH_take (i := 24) (v := ?_) rfl (by kernel_rfl) (by kernel_rfl) (by kernel_rfl) (fun _ _ _ h => h) (Or.inl ⟨?_, ?_⟩) (by assumption) ?_; rotate_left; rfl; focus (intro w hSw; (try dsimp only at hSw); go_simp; all_goals (with_reducible rfl)))
  (try simp only [List.getElem_toArray, List.getElem_cons_zero, List.getElem_cons_succ, Act.put, List.setIfInBounds_toArray, List.set_cons_zero, List.set_cons_succ])
  first | (refine wpAnyH_take (i := 25) (v := _) rfl (by kernel_rfl) (by kernel_rfl) (by kernel_rfl) (fun _ _ _ h => h) (Or.inr ⟨?_, rfl⟩) (by assumption) ?_; rfl) | (refine wpAnyH_take (i := 25) (v := ?_) rfl (by kernel_rfl) (by kernel_rfl) (by kernel_rfl) (fun _ _ _ h => h) (Or.inl ⟨?_, ?_⟩) (by assumption) ?_; rotate_left; rfl; focus (intro w hSw; (try dsimp only at hSw); go_simp; all_goals (with_reducible rfl)))
  (try simp only [List.getElem_toArray, List.getElem_cons_zero, List.getElem_cons_succ, Act.put, List.setIfInBounds_toArray, List.set_cons_zero, List.set_cons_succ])
  first | (refine wpAnyH_take (i := 26) (v := _) rfl (by kernel_rfl) (by kernel_rfl) (by kernel_rfl) (fun _ _ _ h => h) (Or.inr ⟨?_, rfl⟩) (by assumption) ?_; rfl) | (refine wpAnyH_take (i := 26) (v := ?_) rfl (by kernel_rfl) (by kernel_rfl) (by kernel_rfl) (fun _ _ _ h => h) (Or.inl ⟨?_, ?_⟩) (by assumption) ?_; rotate_left; rfl; focus (intro w hSw; (try dsimp only at hSw); go_simp; all_goals (with_reducible rfl)))
  (try simp only [List.getElem_toArray, List.getElem_cons_zero, List.getElem_cons_succ, Act.put, List.setIfInBounds_toArray, List.set_cons_zero, List.set_cons_succ])
  refine wpAnyH_take (i := 29) (v := _) rfl (by kernel_rfl) (by kernel_rfl) (by kernel_rfl) (fun _ _ _ h => h) (yieldsIf_load_ur (by rfl) _ rfl w2.heap.size rfl u A2 c2 (fun w h => h.1)) (by assumption) ?_
  (try simp only [List.getElem_toArray, List.getElem_cons_zero, List.getElem_cons_succ, Act.put, List.setIfInBounds_toArray, List.set_cons_zero, List.set_cons_succ])
  refine wpAnyH_take (i := 31) (v := _) rfl (by kernel_rfl) (by kernel_rfl) (by kernel_rfl) (fun _ _ _ h => h) (yieldsIf_load_ur (by rfl) _ rfl w2.heap.size rfl u A2 c2 (fun w h => h.1)) (by assumption) ?_
  (try simp only [List.getElem_toArray, List.getElem_cons_zero, List.getElem_cons_succ, Act.put, List.setIfInBounds_toArray, List.set_cons_zero, List.set_cons_succ])
  first | (refine wpAnyH_take (i := 34) (v := _) rfl (by kernel_rfl) (by kernel_rfl) (by kernel_rfl) (fun _ _ _ h => h) (Or.inr ⟨?_, rfl⟩) (by assumption) ?_; rfl) | (refine wpAnyH_take (i := 34) (v := ?_) rfl (by kernel_rfl) (by kernel_rfl) (by kernel_rfl) (fun _ _ _ h => h) (Or.inl ⟨?_, ?_⟩) (by assumption) ?_; rotate_left; rfl; focus (intro w hSw; (try dsimp only at hSw); go_simp; all_goals (with_reducible rfl)))
  (try simp only [List.getElem_toArray, List.getElem_cons_zero, List.getElem_cons_succ, Act.put, List.setIfInBounds_toArray, List.set_cons_zero, List.set_cons_succ])
  first | (refine wpAnyH_take (i := 35) (v := _) rfl (by kernel_rfl) (by kernel_rfl) (by kernel_rfl) (fun _ _ _ h => h) (Or.inr ⟨?_, rfl⟩) (by assumption) ?_; rfl) | (refine wpAnyH_take (i := 35) (v := ?_) rfl (by kernel_rfl) (by kernel_rfl) (by kernel_rfl) (fun _ _ _ h => h) (Or.inl ⟨?_, ?_⟩) (by assumption) ?_; rotate_left; rfl; focus (intro w hSw; (try dsimp only at hSw); go_simp; all_goals (with_reducible rfl)))
  (try simp only [List.getElem_toArray, List.getElem_cons_zero, List.getElem_cons_succ, Act.put, List.setIfInBounds_toArray, List.set_cons_zero, List.set_cons_succ])
  first | (refine wpAnyH_take (i := 36) (v := _) rfl (by kernel_rfl) (by kernel_rfl) (by kernel_rfl) (fun _ _ _ h => h) (Or.inr ⟨?_, rfl⟩) (by assumption) ?_; rfl) | (refine wpAnyH_take (i := 36) (v := ?_) rfl (by kernel_rfl) (by kernel_rfl) (by kernel_rfl) (fun _ _ _ h => h) (Or.inl ⟨?_, ?_⟩) (by assumption) ?_; rotate_left; rfl; focus (intro w hSw; (try dsimp only at hSw); go_simp; all_goals (with_reducible rfl)))
  (try simp only [List.getElem_toArray, List.getElem_cons_zero, List.getElem_cons_succ, Act.put, List.setIfInBounds_toArray, List.set_cons_zero, List.set_cons_succ])
  refine wpAnyH_ready (rs := [17]) (by kernel_rfl) (by simp) ?_
  refine AllReadyH.cons rfl (fun K hK => ?_) AllReadyH.nil
  go_simp
  refine hK.out _ _ (boxU (hS0.1.alloc _)) (fun hHeld => ?_)
  clear hK K
  (try simp only [List.getElem_toArray, List.getElem_cons_zero, List.getElem_cons_succ, Act.put, List.setIfInBounds_toArray, List.set_cons_zero, List.set_cons_succ])
  refine wpAnyH_ready (rs := [18]) (by kernel_rfl) (by simp) ?_
  refine AllReadyH.cons rfl (fun K hK => ?_) AllReadyH.nil
  go_simp
  go_at_call 18
  with_reducible refine CP.out.mono ?_
  rintro _ w7 ⟨rfl, ht7, hg7, hs7⟩
  have HB7 := Lib.hid ((HB5.out.drew.alloc HB5.out.size _).grown hg7 (by have := HB5.out.size; simp; omega) (fun q e => by injection e with e; omega))
  have hk7 := (hS0.1.alloc _).grown hg7 (fun e => by injection e with e; omega)
  have HO7 := Lib.hid (own_only (HO5.out.drew.alloc _) hg7 (Nat.lt_succ_self _))
  refine hK.out _ _ (boxU hk7) (fun hHeld => ?_)
  clear hK K ht7 hg7 hs7
  (try simp only [List.getElem_toArray, List.getElem_cons_zero, List.getElem_cons_succ, Act.put, List.setIfInBounds_toArray, List.set_cons_zero, List.set_cons_succ])
  first | (refine wpAnyH_take (i := 19) (v := _) rfl (by kernel_rfl) (by kernel_rfl) (by kernel_rfl) (fun _ _ _ h => h) (Or.inr ⟨?_, rfl⟩) (by assumption) ?_; rfl) | (refine wpAnyH_take (i := 19) (v := ?_) rfl (by kernel_rfl) (by kernel_rfl) (by kernel_rfl) (fun _ _ _ h => h) (Or.inl ⟨?_, ?_⟩) (by assumption) ?_; rotate_left; rfl; focus (intro w hSw; (try dsimp only at hSw); go_simp; all_goals (with_reducible rfl)))
  (try simp only [List.getElem_toArray, List.getElem_cons_zero, List.getElem_cons_succ, Act.put, List.setIfInBounds_toArray, List.set_cons_zero, List.set_cons_succ])
  first | (refine wpAnyH_take (i := 22) (v := _) rfl (by kernel_rfl) (by kernel_rfl) (by kernel_rfl) (fun _ _ _ h => h) (Or.inr ⟨?_, rfl⟩) (by assumption) ?_; rfl) | (refine wpAnyH_take (i := 22) (v := ?_) rfl (by kernel_rfl) (by kernel_rfl) (by kernel_rfl) (fun _ _ _ h => h) (Or.inl ⟨?_, ?_⟩) (by assumption) ?_; rotate_left; rfl; focus (intro w hSw; (try dsimp only at hSw); go_simp; all_goals (with_reducible rfl)))
  (try simp only [List.getElem_toArray, List.getElem_cons_zero, List.getElem_cons_succ, Act.put, List.setIfInBounds_toArray, List.set_cons_zero, List.set_cons_succ])
  refine wpAnyH_ready (rs := [27]) (by kernel_rfl) (by simp) ?_
  refine AllReadyH.cons rfl (fun K hK => ?_) AllReadyH.nil
  go_simp
  go_at_call 19
  with_reducible refine (ctx.out w7 (H.out.below HB7.out)).mono ?_
  rintro _ w8 ⟨t, ht, rfl, hbn⟩
  have HB8 := Lib.hid (below_next HB7.out hbn)
  have hk8 := hk7.below hbn hk7.lt
  have HO8 := Lib.hid (ownsRow_below HO7.out hbn)
  have k9 : ¬ 9223372036854775807 < u.p.length + 1 + t.size := by omega
  refine hK.out _ _ (boxU hk8) (fun hHeld => ?_)
  clear hK K hbn
  (try simp only [List.getElem_toArray, List.getElem_cons_zero, List.getElem_cons_succ, Act.put, List.setIfInBounds_toArray, List.set_cons_zero, List.set_cons_succ])
  first | (refine wpAnyH_take (i := 28) (v := _) rfl (by kernel_rfl) (by kernel_rfl) (by kernel_rfl) (fun _ _ _ h => h) (Or.inr ⟨?_, rfl⟩) (by assumption) ?_; rfl) | (refine wpAnyH_take (i := 28) (v := ?_) rfl (by kernel_rfl) (by kernel_rfl) (by kernel_rfl) (fun _ _ _ h => h) (Or.inl ⟨?_, ?_⟩) (by assumption) ?_; rotate_left; rfl; focus (intro w hSw; (try dsimp only at hSw); go_simp; all_goals (with_reducible rfl)))
  (try simp only [List.getElem_toArray, List.getElem_cons_zero, List.getElem_cons_succ, Act.put, List.setIfInBounds_toArray, List.set_cons_zero, List.set_cons_succ])
  refine wpAnyH_ready (rs := [30]) (by kernel_rfl) (by simp) ?_
  refine AllReadyH.cons rfl (fun K hK => ?_) AllReadyH.nil
  go_simp
  go_at_call 20
  with_reducible refine (ctg.out w8 HO8.out).mono ?_
  rintro _ w9 ⟨rfl, hbn⟩
  have HB9 := Lib.hid (below_next HB8.out hbn)
  have hk9 := hk8.below hbn hk8.lt
  have HO9 := Lib.hid (ownsRow_below HO8.out hbn)
  refine hK.out _ _ (boxU hk9) (fun hHeld => ?_)
  clear hK K hbn
  (try simp only [List.getElem_toArray, List.getElem_cons_zero, List.getElem_cons_succ, Act.put, List.setIfInBounds_toArray, List.set_cons_zero, List.set_cons_succ])
  refine wpAnyH_ready (rs := [32]) (by kernel_rfl) (by simp) ?_
  refine AllReadyH.cons rfl (fun K hK => ?_) AllReadyH.nil
  go_simp
  go_at_call 20
  with_reducible refine (ctg.out w9 HO9.out).mono ?_
  rintro _ wa ⟨rfl, hbn⟩
  have HBa := Lib.hid (below_next HB9.out hbn)
  have hka := hk9.below hbn hk9.lt
  refine hK.out _ _ (boxU hka) (fun hHeld => ?_)
  clear hK K hbn
  (try simp only [List.getElem_toArray, List.getElem_cons_zero, List.getElem_cons_succ, Act.put, List.setIfInBounds_toArray, List.set_cons_zero, List.set_cons_succ])
  first | (refine wpAnyH_take (i := 33) (v := _) rfl (by kernel_rfl) (by kernel_rfl) (by kernel_rfl) (fun _ _ _ h => h) (Or.inr ⟨?_, rfl⟩) (by assumption) ?_; rfl) | (refine wpAnyH_take (i := 33) (v := ?_) rfl (by kernel_rfl) (by kernel_rfl) (by kernel_rfl) (fun _ _ _ h => h) (Or.inl ⟨?_, ?_⟩) (by assumption) ?_; rotate_left; rfl; focus (intro w hSw; (try dsimp only at hSw); go_simp; all_goals (with_reducible rfl)))
  (try simp only [List.getElem_toArray, List.getElem_cons_zero, List.getElem_cons_succ, Act.put, List.setIfInBounds_toArray, List.set_cons_zero, List.set_cons_succ])
  refine wpAnyH_ready (rs := [37]) (by kernel_rfl) (by simp) ?_
  refine AllReadyH.cons rfl (fun K hK => ?_) AllReadyH.nil
  go_simp
  refine hK.out _ _ (boxU (hka.alloc _)) (fun hHeld => ?_)
  clear hK K
  (try simp only [List.getElem_toArray, List.getElem_cons_zero, List.getElem_cons_succ, Act.put, List.setIfInBounds_toArray, List.set_cons_zero, List.set_cons_succ])
  first | (refine wpAnyH_take (i := 38) (v := _) rfl (by kernel_rfl) (by kernel_rfl) (by kernel_rfl) (fun _ _ _ h => h) (Or.inr ⟨?_, rfl⟩) (by assumption) ?_; rfl) | (refine wpAnyH_take (i := 38) (v := ?_) rfl (by kernel_rfl) (by kernel_rfl) (by kernel_rfl) (fun _ _ _ h => h) (Or.inl ⟨?_, ?_⟩) (by assumption) ?_; rotate_left; rfl; focus (intro w hSw; (try dsimp only at hSw); go_simp; all_goals (with_reducible rfl)))
  (try simp only [List.getElem_toArray, List.getElem_cons_zero, List.getElem_cons_succ, Act.put, List.setIfInBounds_toArray, List.set_cons_zero, List.set_cons_succ])
  refine wpAnyH_done (by kernel_rfl) ?_ _
  clear hHeld hS0
  go_wp2_with fail
  go_ret
  have l8 : (⟨#[104, 116, 116, 112, 115, 58, 47, 47]⟩ : ByteArray).size = 8 := rfl
  have l1 : (⟨#[47]⟩ : ByteArray).size = 1 := rfl
  have l2 : (⟨#[63]⟩ : ByteArray).size = 1 := rfl
  have l3 : (⟨#[35]⟩ : ByteArray).size = 1 := rfl
  have l4 : (⟨#[104, 116, 116, 112, 58, 47, 47, 97, 115, 47]⟩ : ByteArray).size = 10 := rfl
  have l5 : (⟨#[104, 116, 116, 112, 115, 58, 47, 47, 97, 115, 47, 120, 63]⟩ : ByteArray).size = 13 := rfl
  have l6 := size_mks u.h
  have l7 := size_mks u.p
  have hpl : u.p.length ≤ (targetL u).length := by
    unfold targetL
    split
    · exact Nat.le_refl _
    · rw [List.length_append]; omega
  refine ⟨wa.heap.size, [s, x, ⟨#[104, 116, 116, 112, 115, 58, 47, 47]⟩ ++ x, s ++ x, s.extract 0 r, ⟨#[104, 116, 116, 112, 115, 58, 47, 47]⟩ ++ ⟨u.h.toArray⟩ ++ ⟨#[47]⟩ ++ x, ⟨#[104, 116, 116, 112, 115, 58, 47, 47]⟩ ++ y ++ ⟨u.p.toArray⟩, ⟨#[104, 116, 116, 112, 58, 47, 47, 97, 115, 47]⟩, (⟨u.p.toArray⟩ : ByteArray) ++ (⟨#[63]⟩ : ByteArray) ++ t, tg, tg ++ (⟨#[63]⟩ : ByteArray), (⟨u.p.toArray⟩ : ByteArray) ++ (⟨#[35]⟩ : ByteArray), ⟨#[104, 116, 116, 112, 115, 58, 47, 47, 97, 115, 47, 120, 63]⟩], rfl, rfl, RowT.new wa 9 [s, x, ⟨#[104, 116, 116, 112, 115, 58, 47, 47]⟩ ++ x, s ++ x, s.extract 0 r, ⟨#[104, 116, 116, 112, 115, 58, 47, 47]⟩ ++ ⟨u.h.toArray⟩ ++ ⟨#[47]⟩ ++ x, ⟨#[104, 116, 116, 112, 115, 58, 47, 47]⟩ ++ y ++ ⟨u.p.toArray⟩, ⟨#[104, 116, 116, 112, 58, 47, 47, 97, 115, 47]⟩, (⟨u.p.toArray⟩ : ByteArray) ++ (⟨#[63]⟩ : ByteArray) ++ t, tg, tg ++ (⟨#[63]⟩ : ByteArray), (⟨u.p.toArray⟩ : ByteArray) ++ (⟨#[35]⟩ : ByteArray), ⟨#[104, 116, 116, 112, 115, 58, 47, 47, 97, 115, 47, 120, 63]⟩], ?_, HBa.out.alloc HBa.out.size _⟩
  intro z hz
  simp only [List.mem_cons, List.not_mem_nil, or_false] at hz
  rcases hz with rfl | rfl | rfl | rfl | rfl | rfl | rfl | rfl | rfl | rfl | rfl | rfl | rfl
  all_goals
    try simp only [ByteArray.size_append, ByteArray.size_extract]
    omega
end Go.Proofs.YtolfcpbcccbmmaaGreatDoor

import Derived.Test.YtnckjglohaaobaaDs
import Derived.Test.YtnckjglohaaobaaAp
set_option linter.unusedVariables false
set_option linter.unusedSimpArgs false
namespace Go.Proofs.Ytnckjglohaaobaa
open Go.RowKit
set_option maxHeartbeats 4000000 in
theorem known_walk (w : World) : Calls Try.prog 9 #[] w fun e w' => e = .returned (.bool true) ∧ Below w.heap.size w w' := by
  have hb : Below w.heap.size w w := Below.refl _ _
  obtain ⟨i0, hi, hz0, hz1, hz2⟩ := info_parts4 info_u8
  go_enter Try.func9, Try.ntmps9
  go_wp2_with fail
  refine (n_walk 258 w).mono ?_
  rintro _ w1 ⟨rfl, hb1⟩
  have cp := put_walk (.mk 2 258 ⟨#[]⟩ []) 2 258 ⟨#[]⟩ none 0 0 w1 (tm_leaf _ _ _ _ _)
  rw [ev_put] at cp
  go_wp2_with fail
  refine cp.mono ?_
  rintro _ w2 ⟨v, rfl, hown, hb2⟩
  obtain ⟨g, cap, rfl, hgl, hcap⟩ := hown.form (by simp)
  have hb12 := below_next hb1 hb2
  have hcl : 5 ≤ cap ∧ cap ≤ 9223372036854775807 := by
    rcases hown.2 with ⟨h, _⟩ | ⟨_, _, _, h, _, _, h1, h2, _⟩
    · cases h
    · injection h with _ _ h
      subst h
      exact ⟨h1, by simpa [maxLen] using h2⟩
  have hrb : Reads w2 w2.heap.size 1 (some ⟨g, 0, none⟩) 5 (Lib.byteCells [2, 0, 0, 1, 2]) := Reads.of_own hown
  have co := one_walk [2, 0, 0, 1, 2] _ _ w2 (by simp) hcl.1 hcl.2 hrb
  rw [ev_one] at co
  go_wp2_with fail
  refine co.mono ?_
  rintro _ w3 ⟨kd, nm, s1, A1, m1, c1, rfl, ht1, hb3⟩
  have hb13 := below_next hb12 hb3
  have cn := one_walk [] none 0 (w3.alloc (.cells #[.int .i64 kd, .int .i64 nm, .string s1, .slice A1 m1 c1] 24)) (by simp) (by simp) (by simp) Reads.none_
  rw [ev_none] at cn
  have hbx1 := Blk.new w3 24 #[.int .i64 kd, .int .i64 nm, .string s1, .slice A1 m1 c1]
  go_wp2_with (refine wpList_store_fresh w3 rfl 24 _ _ rfl _ #[.int .i64 kd, .int .i64 nm, .string s1, .slice A1 m1 c1] _ rfl rfl rfl term_size (ones4 _ _ _ _ _ _) ?_)
  refine cn.mono ?_
  rintro _ w4 ⟨rfl, hb4⟩
  have hbx4 := hbx1.below hb4 hbx1.lt
  have hown4 := ((ownsRow_below (ownsRow_below (ownsRow_below hown hb3) ((Below.refl _ _).alloc (Nat.le_refl _) (.cells #[.int .i64 kd, .int .i64 nm, .string s1, .slice A1 m1 c1] 24))) hb4).alloc (.cells #[.int .i64 0, .int .i64 0, .string ⟨#[]⟩, .slice none 0 0] 24)).alloc (.cells #[.int .u8 7] 5)
  have hrd := reads_new (w4.alloc (.cells #[.int .i64 0, .int .i64 0, .string ⟨#[]⟩, .slice none 0 0] 24)) 5 [.int .u8 7]
  rw [show (w4.alloc (.cells #[.int .i64 0, .int .i64 0, .string ⟨#[]⟩, .slice none 0 0] 24)).heap.size = w4.heap.size + 1 by simp] at hrd
  have hs12 := hb12.size
  have hs2 := hb2.size
  have hs3 := hb3.size
  have hs4 := hb4.size
  rw [show (w3.alloc (.cells #[.int .i64 kd, .int .i64 nm, .string s1, .slice A1 m1 c1] 24)).heap.size = w3.heap.size + 1 by simp] at hs4
  have hb14 := (below_next (hb13.alloc hb13.size (.cells #[.int .i64 kd, .int .i64 nm, .string s1, .slice A1 m1 c1] 24)) hb4)
  go_wp2_with (first
    | (refine wpList_store_fresh w4 rfl 24 _ _ rfl _ #[.int .i64 0, .int .i64 0, .string ⟨#[]⟩, .slice none 0 0] _ rfl rfl rfl term_size (ones4 _ _ _ _ _ _) ?_)
    | (at_builtin; refine wpList_append_keep ((w4.alloc (.cells #[.int .i64 0, .int .i64 0, .string ⟨#[]⟩, .slice none 0 0] 24)).alloc (.cells #[.int .u8 7] 5)) rfl (.tmp 21) (.tmp 22) 28 rfl w1.heap.size 5 i0 (.int .u8 0) 1 Try.underlying28 hi hz0 hz1 hz2 rfl g 5 cap (Lib.byteCells [2, 0, 0, 1, 2]) rfl hown4 (w4.heap.size + 2) _ 1 1 [.int .u8 7] rfl hrd (by simp [Value.oneCell']) (by omega) (by unfold maxLen; omega) (by omega) (by simp; omega) ?_; intro A6 c6 w6 hc6 hown6 hg6 hrb6; clear hown4 hrd))
  have hb16 : Below w.heap.size w w6 := ((hb14.alloc hb14.size _).alloc (by simp; have := hb14.size; omega) _).grown hg6 (by simp; have := hb14.size; omega) (fun q e => by injection e with e; have := hb1.size; omega)
  have ct := take_walk [2, 0, 0, 1, 2, 7] A6 c6 w6 (by simp) hc6 (by have := hown6.2; rcases this with ⟨h, _⟩ | ⟨_, _, _, h, _, _, _, h2, _⟩; cases h; injection h with _ _ h; subst h; simpa [maxLen] using h2) (Reads.of_own hown6)
  rw [ev_take7] at ct
  refine ct.mono ?_
  rintro _ w7 ⟨kd', nm', s2, A2, m2, c2, rfl, ht2, _, hb7⟩
  have hb17 := below_next hb16 hb7
  have hs6 := hg6.size
  have hs7 := hb7.size
  rw [show ((w4.alloc (.cells #[.int .i64 0, .int .i64 0, .string ⟨#[]⟩, .slice none 0 0] 24)).alloc (.cells #[.int .u8 7] 5)).heap.size = w4.heap.size + 2 by simp] at hs6
  have hbx7 : Blk w7 w3.heap.size 24 #[.int .i64 kd, .int .i64 nm, .string s1, .slice A1 m1 c1] := (((hbx4.alloc _).alloc _).grown hg6 (fun e => by injection e with e; omega)).below hb7 (by omega)
  have ht7 : TmV w7 0 (.mk 2 258 ⟨#[]⟩ []) [.int .i64 kd, .int .i64 nm, .string s1, .slice A1 m1 c1] := (((((ht1.below ((Below.refl _ _).alloc (Nat.le_refl _) _)).below hb4).below ((Below.refl _ _).alloc (Nat.le_refl _) _)).below ((Below.refl _ _).alloc (Nat.le_refl _) _)).grown hg6 (fun q e => by injection e with e; omega)).below hb7 |>.low (Nat.zero_le _)
  have hrb7 := hrb6.below hb7
  clear ct hown6 hrb6 hg6 hbx4 hbx1 ht1 hrb
  have hu7 := ht2.low (Nat.zero_le _)
  have hcv : Hid (∀ W, Below w7.heap.size w7 W → (convert 28 9 (.slice (some ⟨g, 0, none⟩) 5 cap)).run Try.prog W = .ok (.string ⟨#[2, 0, 0, 1, 2]⟩) W) := fun W hW => reads_str (hrb7.below (hW.mono hb7.size)) _ _ 5 Try.underlying28 Try.underlying5 Try.underlying9
  go_wp2_with (refine wpList_store_fresh w7 rfl 24 _ _ rfl _ #[.int .i64 kd', .int .i64 nm', .string s2, .slice A2 m2 c2] _ rfl rfl rfl term_size (ones4 _ _ _ _ _ _) ?_)
  have hba := (Below.refl w7.heap.size w7).alloc (Nat.le_refl _) (.cells #[.int .i64 kd', .int .i64 nm', .string s2, .slice A2 m2 c2] 24)
  have hbxa := hbx7.alloc (.cells #[.int .i64 kd', .int .i64 nm', .string s2, .slice A2 m2 c2] 24)
  have hbya := Blk.new w7 24 #[.int .i64 kd', .int .i64 nm', .string s2, .slice A2 m2 c2]
  have hsa : (w7.alloc (.cells #[.int .i64 kd', .int .i64 nm', .string s2, .slice A2 m2 c2] 24)).heap.size = w7.heap.size + 1 := by simp
  have hb1a := hb17.alloc hb17.size (.cells #[.int .i64 kd', .int .i64 nm', .string s2, .slice A2 m2 c2] 24)
  generalize (w7.alloc (.cells #[.int .i64 kd', .int .i64 nm', .string s2, .slice A2 m2 c2] 24)) = wa at hba hbxa hbya hsa hb1a ⊢
  have hS : ∀ W, Below wa.heap.size wa W → (convert 28 9 (.slice (some ⟨g, 0, none⟩) 5 cap)).run Try.prog W = .ok (.string ⟨#[2, 0, 0, 1, 2]⟩) W ∧
      (∀ j u, [Value.int .i64 kd, .int .i64 nm, .string s1, .slice A1 m1 c1][j]? = some u → W.cell? ((⟨w3.heap.size, 0, none⟩ : Addr).add j) = some u) ∧
      (∀ j u, [Value.int .i64 kd', .int .i64 nm', .string s2, .slice A2 m2 c2][j]? = some u → W.cell? ((⟨w7.heap.size, 0, none⟩ : Addr).add j) = some u) :=
    fun W h => ⟨hcv.out W (hba.trans (h.mono hba.size)), blk_cells (hbxa.below h (by omega)), blk_cells (hbya.below h (by omega))⟩
  have HS := Lib.hid hS
  have HT := Lib.hid (fun W (h : Below wa.heap.size wa W) => (ht7.below hba).below h)
  have HU := Lib.hid (fun W (h : Below wa.heap.size wa W) => (hu7.below hba).below h)
  have HB := Lib.hid (fun W (h : Below wa.heap.size wa W) => below_next hb1a h)
  have hse : sameB (.mk 2 258 ⟨#[]⟩ []) (.mk 2 258 ⟨#[]⟩ []) = true := sameB_iff.2 rfl
  clear hS ht7 hu7 hb1a hba hbxa hbya hcv hbx7 ht2 hrb7 hb17 hb16 hb14 hb13 hb12 hb7 hb4 hb3 hb2 hb1 hown co cn cp hb
  refine wp_region_held_drew (S := fun W => (convert 28 9 (.slice (some ⟨g, 0, none⟩) 5 cap)).run Try.prog W = .ok (.string ⟨#[2, 0, 0, 1, 2]⟩) W ∧
      (∀ j u, [Value.int .i64 kd, .int .i64 nm, .string s1, .slice A1 m1 c1][j]? = some u → W.cell? ((⟨w3.heap.size, 0, none⟩ : Addr).add j) = some u) ∧
      (∀ j u, [Value.int .i64 kd', .int .i64 nm', .string s2, .slice A2 m2 c2][j]? = some u → W.cell? ((⟨w7.heap.size, 0, none⟩ : Addr).add j) = some u)) (by kernel_rfl) (HS.out _ (Below.refl _ _).drew) (fun hHeld => ?_)
  first | (refine wpAnyH_take (i := 0) (v := _) rfl (by kernel_rfl) (by kernel_rfl) (by kernel_rfl) (fun _ _ _ h => h) (Or.inr ⟨?_, rfl⟩) (by assumption) ?_; rfl) | (refine wpAnyH_take (i := 0) (v := ?_) rfl (by kernel_rfl) (by kernel_rfl) (by kernel_rfl) (fun _ _ _ h => h) (Or.inl ⟨?_, ?_⟩) (by assumption) ?_; rotate_left; rfl; focus (intro w hSw; (try dsimp only at hSw); go_simp; all_goals (with_reducible rfl)))
  (try simp only [List.getElem_toArray, List.getElem_cons_zero, List.getElem_cons_succ, Act.put, List.setIfInBounds_toArray, List.set_cons_zero, List.set_cons_succ])
  first | (refine wpAnyH_take (i := 1) (v := _) rfl (by kernel_rfl) (by kernel_rfl) (by kernel_rfl) (fun _ _ _ h => h) (Or.inr ⟨?_, rfl⟩) (by assumption) ?_; rfl) | (refine wpAnyH_take (i := 1) (v := ?_) rfl (by kernel_rfl) (by kernel_rfl) (by kernel_rfl) (fun _ _ _ h => h) (Or.inl ⟨?_, ?_⟩) (by assumption) ?_; rotate_left; rfl; focus (intro w hSw; (try dsimp only at hSw); go_simp; all_goals (with_reducible rfl)))
  (try simp only [List.getElem_toArray, List.getElem_cons_zero, List.getElem_cons_succ, Act.put, List.setIfInBounds_toArray, List.set_cons_zero, List.set_cons_succ])
  first | (refine wpAnyH_take (i := 2) (v := _) rfl (by kernel_rfl) (by kernel_rfl) (by kernel_rfl) (fun _ _ _ h => h) (Or.inr ⟨?_, rfl⟩) (by assumption) ?_; rfl) | (refine wpAnyH_take (i := 2) (v := ?_) rfl (by kernel_rfl) (by kernel_rfl) (by kernel_rfl) (fun _ _ _ h => h) (Or.inl ⟨?_, ?_⟩) (by assumption) ?_; rotate_left; rfl; focus (intro w hSw; (try dsimp only at hSw); go_simp; all_goals (with_reducible rfl)))
  (try simp only [List.getElem_toArray, List.getElem_cons_zero, List.getElem_cons_succ, Act.put, List.setIfInBounds_toArray, List.set_cons_zero, List.set_cons_succ])
  first | (refine wpAnyH_take (i := 3) (v := _) rfl (by kernel_rfl) (by kernel_rfl) (by kernel_rfl) (fun _ _ _ h => h) (Or.inr ⟨?_, rfl⟩) (by assumption) ?_; rfl) | (refine wpAnyH_take (i := 3) (v := ?_) rfl (by kernel_rfl) (by kernel_rfl) (by kernel_rfl) (fun _ _ _ h => h) (Or.inl ⟨?_, ?_⟩) (by assumption) ?_; rotate_left; rfl; focus (intro w hSw; (try dsimp only at hSw); go_simp; all_goals (with_reducible rfl)))
  (try simp only [List.getElem_toArray, List.getElem_cons_zero, List.getElem_cons_succ, Act.put, List.setIfInBounds_toArray, List.set_cons_zero, List.set_cons_succ])
  first | (refine wpAnyH_take (i := 4) (v := _) rfl (by kernel_rfl) (by kernel_rfl) (by kernel_rfl) (fun _ _ _ h => h) (Or.inr ⟨?_, rfl⟩) (by assumption) ?_; rfl) | (refine wpAnyH_take (i := 4) (v := ?_) rfl (by kernel_rfl) (by kernel_rfl) (by kernel_rfl) (fun _ _ _ h => h) (Or.inl ⟨?_, ?_⟩) (by assumption) ?_; rotate_left; rfl; focus (intro w hSw; (try dsimp only at hSw); go_simp; all_goals (with_reducible rfl)))
  (try simp only [List.getElem_toArray, List.getElem_cons_zero, List.getElem_cons_succ, Act.put, List.setIfInBounds_toArray, List.set_cons_zero, List.set_cons_succ])
  first | (refine wpAnyH_take (i := 5) (v := _) rfl (by kernel_rfl) (by kernel_rfl) (by kernel_rfl) (fun _ _ _ h => h) (Or.inr ⟨?_, rfl⟩) (by assumption) ?_; rfl) | (refine wpAnyH_take (i := 5) (v := ?_) rfl (by kernel_rfl) (by kernel_rfl) (by kernel_rfl) (fun _ _ _ h => h) (Or.inl ⟨?_, ?_⟩) (by assumption) ?_; rotate_left; rfl; focus (intro w hSw; (try dsimp only at hSw); go_simp; all_goals (with_reducible rfl)))
  (try simp only [List.getElem_toArray, List.getElem_cons_zero, List.getElem_cons_succ, Act.put, List.setIfInBounds_toArray, List.set_cons_zero, List.set_cons_succ])
  first | (refine wpAnyH_take (i := 6) (v := _) rfl (by kernel_rfl) (by kernel_rfl) (by kernel_rfl) (fun _ _ _ h => h) (Or.inr ⟨?_, rfl⟩) (by assumption) ?_; rfl) | (refine wpAnyH_take (i := 6) (v := ?_) rfl (by kernel_rfl) (by kernel_rfl) (by kernel_rfl) (fun _ _ _ h => h) (Or.inl ⟨?_, ?_⟩) (by assumption) ?_; rotate_left; rfl; focus (intro w hSw; (try dsimp only at hSw); go_simp; all_goals (with_reducible rfl)))
  (try simp only [List.getElem_toArray, List.getElem_cons_zero, List.getElem_cons_succ, Act.put, List.setIfInBounds_toArray, List.set_cons_zero, List.set_cons_succ])
  first | (refine wpAnyH_take (i := 7) (v := _) rfl (by kernel_rfl) (by kernel_rfl) (by kernel_rfl) (fun _ _ _ h => h) (Or.inr ⟨?_, rfl⟩) (by assumption) ?_; rfl) | (refine wpAnyH_take (i := 7) (v := ?_) rfl (by kernel_rfl) (by kernel_rfl) (by kernel_rfl) (fun _ _ _ h => h) (Or.inl ⟨?_, ?_⟩) (by assumption) ?_; rotate_left; rfl; focus (intro w hSw; (try dsimp only at hSw); go_simp; all_goals (with_reducible rfl)))
  (try simp only [List.getElem_toArray, List.getElem_cons_zero, List.getElem_cons_succ, Act.put, List.setIfInBounds_toArray, List.set_cons_zero, List.set_cons_succ])
  refine wpAnyH_take (i := 8) (v := _) rfl (by kernel_rfl) (by kernel_rfl) (by kernel_rfl) (fun _ _ _ h => h) (yieldsIf_load_term (by rfl) _ rfl ⟨w3.heap.size, 0, none⟩ rfl _ _ _ _ (fun w h => h.2.1)) (by assumption) ?_
  (try simp only [List.getElem_toArray, List.getElem_cons_zero, List.getElem_cons_succ, Act.put, List.setIfInBounds_toArray, List.set_cons_zero, List.set_cons_succ])
  refine wpAnyH_ready (rs := [9]) (by kernel_rfl) (by simp) ?_
  refine AllReadyH.cons rfl (fun K hK => ?_) AllReadyH.nil
  go_simp
  go_at_call 20
  with_reducible refine (n_walk _ _).mono ?_
  rintro _ w8 ⟨rfl, hb8⟩
  have h8 := below_next (Below.refl _ _).drew hb8
  refine hK.out _ _ (HS.out _ h8) (fun hHeld => ?_)
  clear hK K
  (try simp only [List.getElem_toArray, List.getElem_cons_zero, List.getElem_cons_succ, Act.put, List.setIfInBounds_toArray, List.set_cons_zero, List.set_cons_succ])
  have cs := same_walk (.mk 2 258 ⟨#[]⟩ []) (.mk 2 258 ⟨#[]⟩ []) kd nm s1 A1 m1 c1 2 258 ⟨#[]⟩ none 0 0 w8 (HT.out _ h8) (tm_leaf _ _ _ _ _)
  rw [hse] at cs
  have CS := Lib.hid cs
  clear cs hb8
  refine wpAnyH_ready (rs := [10]) (by kernel_rfl) (by simp) ?_
  refine AllReadyH.cons rfl (fun K hK => ?_) AllReadyH.nil
  go_simp
  go_at_call 18
  with_reducible refine CS.out.mono ?_
  rintro _ w9 ⟨rfl, hb9⟩
  have h9 := below_next h8 hb9
  refine hK.out _ _ (HS.out _ h9) (fun hHeld => ?_)
  clear hK K CS hb9
  (try simp only [List.getElem_toArray, List.getElem_cons_zero, List.getElem_cons_succ, Act.put, List.setIfInBounds_toArray, List.set_cons_zero, List.set_cons_succ])
  first | (refine wpAnyH_take (i := 11) (v := _) rfl (by kernel_rfl) (by kernel_rfl) (by kernel_rfl) (fun _ _ _ h => h) (Or.inr ⟨?_, rfl⟩) (by assumption) ?_; rfl) | (refine wpAnyH_take (i := 11) (v := ?_) rfl (by kernel_rfl) (by kernel_rfl) (by kernel_rfl) (fun _ _ _ h => h) (Or.inl ⟨?_, ?_⟩) (by assumption) ?_; rotate_left; rfl; focus (intro w hSw; (try dsimp only at hSw); go_simp; all_goals (with_reducible rfl)))
  (try simp only [List.getElem_toArray, List.getElem_cons_zero, List.getElem_cons_succ, Act.put, List.setIfInBounds_toArray, List.set_cons_zero, List.set_cons_succ])
  first | (refine wpAnyH_take (i := 12) (v := _) rfl (by kernel_rfl) (by kernel_rfl) (by kernel_rfl) (fun _ _ _ h => h) (Or.inr ⟨?_, rfl⟩) (by assumption) ?_; rfl) | (refine wpAnyH_take (i := 12) (v := ?_) rfl (by kernel_rfl) (by kernel_rfl) (by kernel_rfl) (fun _ _ _ h => h) (Or.inl ⟨?_, ?_⟩) (by assumption) ?_; rotate_left; rfl; focus (intro w hSw; (try dsimp only at hSw); go_simp; all_goals (with_reducible rfl)))
  (try simp only [List.getElem_toArray, List.getElem_cons_zero, List.getElem_cons_succ, Act.put, List.setIfInBounds_toArray, List.set_cons_zero, List.set_cons_succ])
  first | (refine wpAnyH_take (i := 13) (v := _) rfl (by kernel_rfl) (by kernel_rfl) (by kernel_rfl) (fun _ _ _ h => h) (Or.inr ⟨?_, rfl⟩) (by assumption) ?_; rfl) | (refine wpAnyH_take (i := 13) (v := ?_) rfl (by kernel_rfl) (by kernel_rfl) (by kernel_rfl) (fun _ _ _ h => h) (Or.inl ⟨?_, ?_⟩) (by assumption) ?_; rotate_left; rfl; focus (intro w hSw; (try dsimp only at hSw); go_simp; all_goals (with_reducible rfl)))
  (try simp only [List.getElem_toArray, List.getElem_cons_zero, List.getElem_cons_succ, Act.put, List.setIfInBounds_toArray, List.set_cons_zero, List.set_cons_succ])
  first | (refine wpAnyH_take (i := 14) (v := _) rfl (by kernel_rfl) (by kernel_rfl) (by kernel_rfl) (fun _ _ _ h => h) (Or.inr ⟨?_, rfl⟩) (by assumption) ?_; rfl) | (refine wpAnyH_take (i := 14) (v := ?_) rfl (by kernel_rfl) (by kernel_rfl) (by kernel_rfl) (fun _ _ _ h => h) (Or.inl ⟨?_, ?_⟩) (by assumption) ?_; rotate_left; rfl; focus (intro w hSw; (try dsimp only at hSw); go_simp; all_goals (with_reducible rfl)))
  (try simp only [List.getElem_toArray, List.getElem_cons_zero, List.getElem_cons_succ, Act.put, List.setIfInBounds_toArray, List.set_cons_zero, List.set_cons_succ])
  first | (refine wpAnyH_take (i := 15) (v := _) rfl (by kernel_rfl) (by kernel_rfl) (by kernel_rfl) (fun _ _ _ h => h) (Or.inr ⟨?_, rfl⟩) (by assumption) ?_; rfl) | (refine wpAnyH_take (i := 15) (v := ?_) rfl (by kernel_rfl) (by kernel_rfl) (by kernel_rfl) (fun _ _ _ h => h) (Or.inl ⟨?_, ?_⟩) (by assumption) ?_; rotate_left; rfl; focus (intro w hSw; (try dsimp only at hSw); go_simp; all_goals (with_reducible rfl)))
  (try simp only [List.getElem_toArray, List.getElem_cons_zero, List.getElem_cons_succ, Act.put, List.setIfInBounds_toArray, List.set_cons_zero, List.set_cons_succ])
  first | (refine wpAnyH_take (i := 16) (v := _) rfl (by kernel_rfl) (by kernel_rfl) (by kernel_rfl) (fun _ _ _ h => h) (Or.inr ⟨?_, rfl⟩) (by assumption) ?_; rfl) | (refine wpAnyH_take (i := 16) (v := ?_) rfl (by kernel_rfl) (by kernel_rfl) (by kernel_rfl) (fun _ _ _ h => h) (Or.inl ⟨?_, ?_⟩) (by assumption) ?_; rotate_left; rfl; focus (intro w hSw; (try dsimp only at hSw); go_simp; all_goals (with_reducible rfl)))
  (try simp only [List.getElem_toArray, List.getElem_cons_zero, List.getElem_cons_succ, Act.put, List.setIfInBounds_toArray, List.set_cons_zero, List.set_cons_succ])
  first | (refine wpAnyH_take (i := 17) (v := _) rfl (by kernel_rfl) (by kernel_rfl) (by kernel_rfl) (fun _ _ _ h => h) (Or.inr ⟨?_, rfl⟩) (by assumption) ?_; rfl) | (refine wpAnyH_take (i := 17) (v := ?_) rfl (by kernel_rfl) (by kernel_rfl) (by kernel_rfl) (fun _ _ _ h => h) (Or.inl ⟨?_, ?_⟩) (by assumption) ?_; rotate_left; rfl; focus (intro w hSw; (try dsimp only at hSw); go_simp; all_goals (with_reducible rfl)))
  (try simp only [List.getElem_toArray, List.getElem_cons_zero, List.getElem_cons_succ, Act.put, List.setIfInBounds_toArray, List.set_cons_zero, List.set_cons_succ])
  first | (refine wpAnyH_take (i := 18) (v := _) rfl (by kernel_rfl) (by kernel_rfl) (by kernel_rfl) (fun _ _ _ h => h) (Or.inr ⟨?_, rfl⟩) (by assumption) ?_; rfl) | (refine wpAnyH_take (i := 18) (v := ?_) rfl (by kernel_rfl) (by kernel_rfl) (by kernel_rfl) (fun _ _ _ h => h) (Or.inl ⟨?_, ?_⟩) (by assumption) ?_; rotate_left; rfl; focus (intro w hSw; (try dsimp only at hSw); go_simp; all_goals (with_reducible rfl)))
  (try simp only [List.getElem_toArray, List.getElem_cons_zero, List.getElem_cons_succ, Act.put, List.setIfInBounds_toArray, List.set_cons_zero, List.set_cons_succ])
  first | (refine wpAnyH_take (i := 19) (v := _) rfl (by kernel_rfl) (by kernel_rfl) (by kernel_rfl) (fun _ _ _ h => h) (Or.inr ⟨?_, rfl⟩) (by assumption) ?_; rfl) | (refine wpAnyH_take (i := 19) (v := ?_) rfl (by kernel_rfl) (by kernel_rfl) (by kernel_rfl) (fun _ _ _ h => h) (Or.inl ⟨?_, ?_⟩) (by assumption) ?_; rotate_left; rfl; focus (intro w hSw; (try dsimp only at hSw); go_simp; all_goals (with_reducible rfl)))
  (try simp only [List.getElem_toArray, List.getElem_cons_zero, List.getElem_cons_succ, Act.put, List.setIfInBounds_toArray, List.set_cons_zero, List.set_cons_succ])
  first | (refine wpAnyH_take (i := 20) (v := _) rfl (by kernel_rfl) (by kernel_rfl) (by kernel_rfl) (fun _ _ _ h => h) (Or.inr ⟨?_, rfl⟩) (by assumption) ?_; rfl) | (refine wpAnyH_take (i := 20) (v := ?_) rfl (by kernel_rfl) (by kernel_rfl) (by kernel_rfl) (fun _ _ _ h => h) (Or.inl ⟨?_, ?_⟩) (by assumption) ?_; rotate_left; rfl; focus (intro w hSw; (try dsimp only at hSw); go_simp; all_goals (with_reducible rfl)))
  (try simp only [List.getElem_toArray, List.getElem_cons_zero, List.getElem_cons_succ, Act.put, List.setIfInBounds_toArray, List.set_cons_zero, List.set_cons_succ])
  first | (refine wpAnyH_take (i := 21) (v := _) rfl (by kernel_rfl) (by kernel_rfl) (by kernel_rfl) (fun _ _ _ h => h) (Or.inr ⟨?_, rfl⟩) (by assumption) ?_; rfl) | (refine wpAnyH_take (i := 21) (v := ?_) rfl (by kernel_rfl) (by kernel_rfl) (by kernel_rfl) (fun _ _ _ h => h) (Or.inl ⟨?_, ?_⟩) (by assumption) ?_; rotate_left; rfl; focus (intro w hSw; (try dsimp only at hSw); go_simp; all_goals (with_reducible rfl)))
  (try simp only [List.getElem_toArray, List.getElem_cons_zero, List.getElem_cons_succ, Act.put, List.setIfInBounds_toArray, List.set_cons_zero, List.set_cons_succ])
  first | (refine wpAnyH_take (i := 22) (v := _) rfl (by kernel_rfl) (by kernel_rfl) (by kernel_rfl) (fun _ _ _ h => h) (Or.inr ⟨?_, rfl⟩) (by assumption) ?_; rfl) | (refine wpAnyH_take (i := 22) (v := ?_) rfl (by kernel_rfl) (by kernel_rfl) (by kernel_rfl) (fun _ _ _ h => h) (Or.inl ⟨?_, ?_⟩) (by assumption) ?_; rotate_left; rfl; focus (intro w hSw; (try dsimp only at hSw); go_simp; all_goals (with_reducible rfl)))
  (try simp only [List.getElem_toArray, List.getElem_cons_zero, List.getElem_cons_succ, Act.put, List.setIfInBounds_toArray, List.set_cons_zero, List.set_cons_succ])
  first | (refine wpAnyH_take (i := 23) (v := _) rfl (by kernel_rfl) (by kernel_rfl) (by kernel_rfl) (fun _ _ _ h => h) (Or.inr ⟨?_, rfl⟩) (by assumption) ?_; rfl) | (refine wpAnyH_take (i := 23) (v := ?_) rfl (by kernel_rfl) (by kernel_rfl) (by kernel_rfl) (fun _ _ _ h => h) (Or.inl ⟨?_, ?_⟩) (by assumption) ?_; rotate_left; rfl; focus (intro w hSw; (try dsimp only at hSw); go_simp; all_goals (with_reducible rfl)))
  (try simp only [List.getElem_toArray, List.getElem_cons_zero, List.getElem_cons_succ, Act.put, List.setIfInBounds_toArray, List.set_cons_zero, List.set_cons_succ])
  first | (refine wpAnyH_take (i := 24) (v := _) rfl (by kernel_rfl) (by kernel_rfl) (by kernel_rfl) (fun _ _ _ h => h) (Or.inr ⟨?_, rfl⟩) (by assumption) ?_; rfl) | (refine wpAnyH_take (i := 24) (v := ?_) rfl (by kernel_rfl) (by kernel_rfl) (by kernel_rfl) (fun _ _ _ h => h) (Or.inl ⟨?_, ?_⟩) (by assumption) ?_; rotate_left; rfl; focus (intro w hSw; (try dsimp only at hSw); go_simp; all_goals (with_reducible rfl)))
  (try simp only [List.getElem_toArray, List.getElem_cons_zero, List.getElem_cons_succ, Act.put, List.setIfInBounds_toArray, List.set_cons_zero, List.set_cons_succ])
  refine wpAnyH_take (i := 25) (v := _) rfl (by kernel_rfl) (by kernel_rfl) (by kernel_rfl) (fun _ _ _ h => h) (yieldsIf_load_term (by rfl) _ rfl ⟨w7.heap.size, 0, none⟩ rfl _ _ _ _ (fun w h => h.2.2)) (by assumption) ?_
  (try simp only [List.getElem_toArray, List.getElem_cons_zero, List.getElem_cons_succ, Act.put, List.setIfInBounds_toArray, List.set_cons_zero, List.set_cons_succ])
  refine wpAnyH_take (i := 26) (v := _) rfl (by kernel_rfl) (by kernel_rfl) (by kernel_rfl) (fun _ _ _ h => h) (yieldsIf_load_term (by rfl) _ rfl ⟨w3.heap.size, 0, none⟩ rfl _ _ _ _ (fun w h => h.2.1)) (by assumption) ?_
  (try simp only [List.getElem_toArray, List.getElem_cons_zero, List.getElem_cons_succ, Act.put, List.setIfInBounds_toArray, List.set_cons_zero, List.set_cons_succ])
  have cs := same_walk (.mk 2 258 ⟨#[]⟩ []) (.mk 2 258 ⟨#[]⟩ []) kd' nm' s2 A2 m2 c2 kd nm s1 A1 m1 c1 w9 (HU.out _ h9) (HT.out _ h9)
  rw [hse] at cs
  have CS := Lib.hid cs
  clear cs
  refine wpAnyH_ready (rs := [27]) (by kernel_rfl) (by simp) ?_
  refine AllReadyH.cons rfl (fun K hK => ?_) AllReadyH.nil
  go_simp
  go_at_call 18
  with_reducible refine CS.out.mono ?_
  rintro _ w10 ⟨rfl, hb10⟩
  have h10 := below_next h9 hb10
  refine hK.out _ _ (HS.out _ h10) (fun hHeld => ?_)
  clear hK K CS hb10
  (try simp only [List.getElem_toArray, List.getElem_cons_zero, List.getElem_cons_succ, Act.put, List.setIfInBounds_toArray, List.set_cons_zero, List.set_cons_succ])
  first | (refine wpAnyH_take (i := 28) (v := _) rfl (by kernel_rfl) (by kernel_rfl) (by kernel_rfl) (fun _ _ _ h => h) (Or.inr ⟨?_, rfl⟩) (by assumption) ?_; rfl) | (refine wpAnyH_take (i := 28) (v := ?_) rfl (by kernel_rfl) (by kernel_rfl) (by kernel_rfl) (fun _ _ _ h => h) (Or.inl ⟨?_, ?_⟩) (by assumption) ?_; rotate_left; rfl; focus (intro w hSw; (try dsimp only at hSw); go_simp; all_goals (with_reducible rfl)))
  (try simp only [List.getElem_toArray, List.getElem_cons_zero, List.getElem_cons_succ, Act.put, List.setIfInBounds_toArray, List.set_cons_zero, List.set_cons_succ])
  first | (refine wpAnyH_take (i := 29) (v := _) rfl (by kernel_rfl) (by kernel_rfl) (by kernel_rfl) (fun _ _ _ h => h) (Or.inr ⟨?_, rfl⟩) (by assumption) ?_; rfl) | (refine wpAnyH_take (i := 29) (v := ?_) rfl (by kernel_rfl) (by kernel_rfl) (by kernel_rfl) (fun _ _ _ h => h) (Or.inl ⟨?_, ?_⟩) (by assumption) ?_; rotate_left; rfl; focus (intro w hSw; (try dsimp only at hSw); go_simp; all_goals (with_reducible rfl)))
  (try simp only [List.getElem_toArray, List.getElem_cons_zero, List.getElem_cons_succ, Act.put, List.setIfInBounds_toArray, List.set_cons_zero, List.set_cons_succ])
  refine wpAnyH_done (by kernel_rfl) ?_ _
  have hb := Lib.hid (HB.out _ h10)
  clear hHeld h8 h9 h10
  go_wp2_with fail
  go_ret
  exact ⟨rfl, hb.out⟩
end Go.Proofs.Ytnckjglohaaobaa

/- The statement CodePut. No condition of its own. -/
import Derived.Test.YtnckjglohaaobaaFa
import Derived.Test.YtnckjglohaaobaaAh
set_option linter.unusedVariables false
set_option linter.unusedSimpArgs false
namespace Go.Proofs.Ytnckjglohaaobaa
open Go.RowKit
theorem str_bytes {W : World} {A : Option Addr} {c : Nat} {l : List UInt8} {n : Nat} (h : Reads W W.heap.size 1 A n (Lib.byteCells l)) : ∀ X, Below W.heap.size W X → (convert 28 9 (.slice A n c)).run Try.prog X = .ok (.string ⟨l.toArray⟩) X := fun X hb =>
  reads_str (h.below hb) _ _ 5 Try.underlying28 Try.underlying5 Try.underlying9
theorem tmv_keeps {W : World} {lo : Nat} {t : Tm} {cs : List Value} (h : TmV W lo t cs) : Keeps W (fun X => TmV X 0 t cs) := fun W' hb => (h.below hb).low (Nat.zero_le _)
theorem ints_keeps {W : World} {A : Option Addr} {c : Nat} {l : List Int} (h : IntsIn W A c l) : Keeps W (fun X => IntsIn X A c l) := fun W' hb => h.below hb
set_option maxHeartbeats 8000000 in
theorem put_law (t : Tm) (kind n : Int) (s : ByteArray) (A : Option Addr) (m c : Nat) (zs : List Int) (A1 : Option Addr) (c1 : Nat) (w : World) (ht : TmV w 0 t [.int .i64 kind, .int .i64 n, .string s, .slice A m c]) (h1 : IntsIn w A1 c1 zs) :
    Calls Try.prog 3 #[.agg #[.int .i64 kind, .int .i64 n, .string s, .slice A m c], .slice A1 zs.length c1] w fun e w' => e = .returned (.bool true) ∧ Below w.heap.size w w' := by
  have hb0 := (Below.refl w.heap.size w).alloc (Nat.le_refl _) (.cells #[.int .i64 kind, .int .i64 n, .string s, .slice A m c] 24)
  have HK := Lib.hid ((((below_keeps (Below.refl w.heap.size w)).and (tmv_keeps ht)).and (ints_keeps h1)).next hb0 (Blk.new w 24 #[.int .i64 kind, .int .i64 n, .string s, .slice A m c]).keeps)
  clear ht h1 hb0
  go_enter Try.func3, Try.ntmps3
  go_wp2_with fail
  refine (known_walk _).mono ?_
  rintro _ w1 ⟨rfl, hb1⟩
  have HK := Lib.hid (HK.out.on hb1)
  have hx1 := HK.out.now.2
  have cf := Lib.hid (few_all t _ 6000 w1 HK.out.now.1.1.2)
  clear hb1
  go_wp2_with (refine wpList_load_at rfl 24 _ rfl ⟨w.heap.size, 0, none⟩ rfl [.int .i64 kind, .int .i64 n, .string s, .slice A m c] _ (blk_cells hx1) Try.underlying24 rfl term_size ?_)
  refine cf.out.mono ?_
  rintro _ w2 ⟨⟨q, rfl⟩, hb2⟩
  have HK := Lib.hid (HK.out.on hb2)
  clear hb2 hx1 cf
  by_cases hq : q < 0
  · have HB := Lib.hid HK.out.now.1.1.1
    clear HK
    go_wp2_with fail
    go_ret
    exact ⟨rfl, HB.out⟩
  · have HC : Hid (∀ W, Below w2.heap.size w2 W → ∀ j u, [Value.int .i64 kind, .int .i64 n, .string s, .slice A m c][j]? = some u → W.cell? ((⟨w.heap.size, 0, none⟩ : Addr).add j) = some u) := fun W h => blk_cells (HK.out W h).2
    go_wp2_with fail
    refine wp_region_held_drew (S := fun W => ∀ j u, [Value.int .i64 kind, .int .i64 n, .string s, .slice A m c][j]? = some u → W.cell? ((⟨w.heap.size, 0, none⟩ : Addr).add j) = some u) (by kernel_rfl) (HC.out _ (Below.refl _ _).drew) (fun hHeld => ?_)
    refine wpAnyH_take (i := 0) (v := _) rfl (by kernel_rfl) (by kernel_rfl) (by kernel_rfl) (fun _ _ _ h => h) (yieldsIf_load_term (by rfl) _ rfl ⟨w.heap.size, 0, none⟩ rfl _ _ _ _ (fun w h => h)) (by assumption) ?_
    (try simp only [List.getElem_toArray, List.getElem_cons_zero, List.getElem_cons_succ, Act.put, List.setIfInBounds_toArray, List.set_cons_zero, List.set_cons_succ])
    refine wpAnyH_take (i := 3) (v := _) rfl (by kernel_rfl) (by kernel_rfl) (by kernel_rfl) (fun _ _ _ h => h) (yieldsIf_load_term (by rfl) _ rfl ⟨w.heap.size, 0, none⟩ rfl _ _ _ _ (fun w h => h)) (by assumption) ?_
    (try simp only [List.getElem_toArray, List.getElem_cons_zero, List.getElem_cons_succ, Act.put, List.setIfInBounds_toArray, List.set_cons_zero, List.set_cons_succ])
    have CP := Lib.hid (put_walk t kind n s A m c w2.drew (HK.out _ (Below.refl _ _).drew).1.1.2)
    refine wpAnyH_ready (rs := [1]) (by kernel_rfl) (by simp) ?_
    refine AllReadyH.cons rfl (fun K hK => ?_) AllReadyH.nil
    go_simp
    go_at_call 11
    with_reducible refine CP.out.mono ?_
    rintro _ w3 ⟨v3, rfl, hown3, hb3⟩
    obtain ⟨Ax, cx, rfl, hcx, hrx⟩ := own_reads hown3 (Nat.le_refl _)
    have h3 := below_then (Below.refl _ _).drew hb3
    have HX := Lib.hid (str_bytes (c := cx) hrx)
    refine hK.out _ _ (HC.out _ h3) (fun hHeld => ?_)
    clear hK K CP hown3 hrx hcx hb3
    (try simp only [List.getElem_toArray, List.getElem_cons_zero, List.getElem_cons_succ, Act.put, List.setIfInBounds_toArray, List.set_cons_zero, List.set_cons_succ])
    refine wpAnyH_grow (S' := fun W => (∀ j u, [Value.int .i64 kind, .int .i64 n, .string s, .slice A m c][j]? = some u → W.cell? ((⟨w.heap.size, 0, none⟩ : Addr).add j) = some u) ∧ (convert 28 9 (.slice Ax (putT t).length cx)).run Try.prog W = .ok (.string ⟨(putT t).toArray⟩) W) (fun W h => h.1) _ _ _ _ ?_
    replace hHeld := And.intro hHeld (HX.out _ (Below.refl _ _))
    first | (refine wpAnyH_take (i := 2) (v := _) rfl (by kernel_rfl) (by kernel_rfl) (by kernel_rfl) (fun _ _ _ h => h) (Or.inr ⟨?_, rfl⟩) (by assumption) ?_; rfl) | (refine wpAnyH_take (i := 2) (v := ?_) rfl (by kernel_rfl) (by kernel_rfl) (by kernel_rfl) (fun _ _ _ h => h) (Or.inl ⟨?_, ?_⟩) (by assumption) ?_; rotate_left; rfl; focus (intro w hSw; (try dsimp only at hSw); go_simp; all_goals (with_reducible rfl)))
    (try simp only [List.getElem_toArray, List.getElem_cons_zero, List.getElem_cons_succ, Act.put, List.setIfInBounds_toArray, List.set_cons_zero, List.set_cons_succ])
    have CP := Lib.hid (rputm_walk t kind n s A m c w3 (HK.out _ h3).1.1.2)
    refine wpAnyH_ready (rs := [4]) (by kernel_rfl) (by simp) ?_
    refine AllReadyH.cons rfl (fun K hK => ?_) AllReadyH.nil
    go_simp
    go_at_call 12
    with_reducible refine CP.out.mono ?_
    rintro _ w4 ⟨v4, rfl, hown4, hb4⟩
    obtain ⟨Ay, cy, rfl, hcy, hry⟩ := own_reads hown4 (Nat.le_refl _)
    have h4 := below_then h3 hb4
    have HY := Lib.hid (str_bytes (c := cy) hry)
    refine hK.out _ _ ⟨HC.out _ h4, HX.out _ hb4⟩ (fun hHeld => ?_)
    clear hK K CP hown4 hry hcy
    (try simp only [List.getElem_toArray, List.getElem_cons_zero, List.getElem_cons_succ, Act.put, List.setIfInBounds_toArray, List.set_cons_zero, List.set_cons_succ])
    refine wpAnyH_grow (S' := fun W => (convert 28 9 (.slice Ay (putT t).length cy)).run Try.prog W = .ok (.string ⟨(putT t).toArray⟩) W ∧ ((∀ j u, [Value.int .i64 kind, .int .i64 n, .string s, .slice A m c][j]? = some u → W.cell? ((⟨w.heap.size, 0, none⟩ : Addr).add j) = some u) ∧ (convert 28 9 (.slice Ax (putT t).length cx)).run Try.prog W = .ok (.string ⟨(putT t).toArray⟩) W)) (fun W h => h.2) _ _ _ _ ?_
    replace hHeld := And.intro (HY.out _ (Below.refl _ _)) hHeld
    first | (refine wpAnyH_take (i := 5) (v := _) rfl (by kernel_rfl) (by kernel_rfl) (by kernel_rfl) (fun _ _ _ h => h) (Or.inr ⟨?_, rfl⟩) (by assumption) ?_; rfl) | (refine wpAnyH_take (i := 5) (v := ?_) rfl (by kernel_rfl) (by kernel_rfl) (by kernel_rfl) (fun _ _ _ h => h) (Or.inl ⟨?_, ?_⟩) (by assumption) ?_; rotate_left; rfl; focus (intro w hSw; (try dsimp only at hSw); go_simp; all_goals (with_reducible rfl)))
    (try simp only [List.getElem_toArray, List.getElem_cons_zero, List.getElem_cons_succ, Act.put, List.setIfInBounds_toArray, List.set_cons_zero, List.set_cons_succ])
    first | (refine wpAnyH_take (i := 6) (v := _) rfl (by kernel_rfl) (by kernel_rfl) (by kernel_rfl) (fun _ _ _ h => h) (Or.inr ⟨?_, rfl⟩) (by assumption) ?_; rfl) | (refine wpAnyH_take (i := 6) (v := ?_) rfl (by kernel_rfl) (by kernel_rfl) (by kernel_rfl) (fun _ _ _ h => h) (Or.inl ⟨?_, ?_⟩) (by assumption) ?_; rotate_left; rfl; focus (intro w hSw; (try dsimp only at hSw); go_simp; all_goals (with_reducible rfl)))
    (try simp only [List.getElem_toArray, List.getElem_cons_zero, List.getElem_cons_succ, Act.put, List.setIfInBounds_toArray, List.set_cons_zero, List.set_cons_succ])
    first | (refine wpAnyH_take (i := 7) (v := _) rfl (by kernel_rfl) (by kernel_rfl) (by kernel_rfl) (fun _ _ _ h => h) (Or.inr ⟨?_, rfl⟩) (by assumption) ?_; rfl) | (refine wpAnyH_take (i := 7) (v := ?_) rfl (by kernel_rfl) (by kernel_rfl) (by kernel_rfl) (fun _ _ _ h => h) (Or.inl ⟨?_, ?_⟩) (by assumption) ?_; rotate_left; rfl; focus (intro w hSw; (try dsimp only at hSw); go_simp; all_goals (with_reducible rfl)))
    (try simp only [List.getElem_toArray, List.getElem_cons_zero, List.getElem_cons_succ, Act.put, List.setIfInBounds_toArray, List.set_cons_zero, List.set_cons_succ])
    first | (refine wpAnyH_take (i := 8) (v := _) rfl (by kernel_rfl) (by kernel_rfl) (by kernel_rfl) (fun _ _ _ h => h) (Or.inr ⟨?_, rfl⟩) (by assumption) ?_; rfl) | (refine wpAnyH_take (i := 8) (v := ?_) rfl (by kernel_rfl) (by kernel_rfl) (by kernel_rfl) (fun _ _ _ h => h) (Or.inl ⟨?_, ?_⟩) (by assumption) ?_; rotate_left; rfl; focus (intro w hSw; (try dsimp only at hSw); go_simp; all_goals (with_reducible rfl)))
    (try simp only [List.getElem_toArray, List.getElem_cons_zero, List.getElem_cons_succ, Act.put, List.setIfInBounds_toArray, List.set_cons_zero, List.set_cons_succ])
    first | (refine wpAnyH_take (i := 12) (v := _) rfl (by kernel_rfl) (by kernel_rfl) (by kernel_rfl) (fun _ _ _ h => h) (Or.inr ⟨?_, rfl⟩) (by assumption) ?_; rfl) | (refine wpAnyH_take (i := 12) (v := ?_) rfl (by kernel_rfl) (by kernel_rfl) (by kernel_rfl) (fun _ _ _ h => h) (Or.inl ⟨?_, ?_⟩) (by assumption) ?_; rotate_left; rfl; focus (intro w hSw; (try dsimp only at hSw); go_simp; all_goals (with_reducible rfl)))
    (try simp only [List.getElem_toArray, List.getElem_cons_zero, List.getElem_cons_succ, Act.put, List.setIfInBounds_toArray, List.set_cons_zero, List.set_cons_succ])
    have HK := Lib.hid (HK.out.on h4)
    have HCX : Hid (∀ W, Below w4.heap.size w4 W → (convert 28 9 (.slice Ay (putT t).length cy)).run Try.prog W = .ok (.string ⟨(putT t).toArray⟩) W ∧ ((∀ j u, [Value.int .i64 kind, .int .i64 n, .string s, .slice A m c][j]? = some u → W.cell? ((⟨w.heap.size, 0, none⟩ : Addr).add j) = some u) ∧ (convert 28 9 (.slice Ax (putT t).length cx)).run Try.prog W = .ok (.string ⟨(putT t).toArray⟩) W)) := fun W h => ⟨HY.out W h, HC.out W (below_then h4 h), HX.out W (below_then hb4 h)⟩
    clear HX HY HC h3 h4 hb4
    have CO := Lib.hid (onel_walk zs A1 c1 w4 HK.out.now.1.2)
    refine wpAnyH_ready (rs := [9]) (by kernel_rfl) (by simp) ?_
    refine AllReadyH.cons rfl (fun K hK => ?_) AllReadyH.nil
    go_simp
    go_at_call 13
    with_reducible refine CO.out.mono ?_
    rintro _ w5 ⟨kd, nm, s5, A5, m5, c5, rfl, htv5, hb5⟩
    have h5 := below_then (Below.refl _ _) hb5
    have CP := Lib.hid (put_walk (oneL zs) kd nm s5 A5 m5 c5 w5 (htv5.low (Nat.zero_le _)))
    refine hK.out _ _ (HCX.out _ h5) (fun hHeld => ?_)
    clear hK K CO htv5 hb5
    (try simp only [List.getElem_toArray, List.getElem_cons_zero, List.getElem_cons_succ, Act.put, List.setIfInBounds_toArray, List.set_cons_zero, List.set_cons_succ])
    refine wpAnyH_ready (rs := [10]) (by kernel_rfl) (by simp) ?_
    refine AllReadyH.cons rfl (fun K hK => ?_) AllReadyH.nil
    go_simp
    go_at_call 11
    with_reducible refine CP.out.mono ?_
    rintro _ w6 ⟨v6, rfl, hown6, hb6⟩
    have h6 := below_then h5 hb6
    obtain ⟨Az, cz, rfl, hcz, hrz⟩ := own_reads hown6 (Nat.le_refl _)
    have HZ := Lib.hid (str_bytes (c := cz) hrz)
    refine hK.out _ _ (HCX.out _ h6) (fun hHeld => ?_)
    clear hK K CP hown6 hrz hcz hb6 h5
    (try simp only [List.getElem_toArray, List.getElem_cons_zero, List.getElem_cons_succ, Act.put, List.setIfInBounds_toArray, List.set_cons_zero, List.set_cons_succ])
    refine wpAnyH_grow (S' := fun W => (convert 28 9 (.slice Az (putT (oneL zs)).length cz)).run Try.prog W = .ok (.string ⟨(putT (oneL zs)).toArray⟩) W ∧ ((convert 28 9 (.slice Ay (putT t).length cy)).run Try.prog W = .ok (.string ⟨(putT t).toArray⟩) W ∧ ((∀ j u, [Value.int .i64 kind, .int .i64 n, .string s, .slice A m c][j]? = some u → W.cell? ((⟨w.heap.size, 0, none⟩ : Addr).add j) = some u) ∧ (convert 28 9 (.slice Ax (putT t).length cx)).run Try.prog W = .ok (.string ⟨(putT t).toArray⟩) W))) (fun W h => h.2) _ _ _ _ ?_
    replace hHeld := And.intro (HZ.out _ (Below.refl _ _)) hHeld
    first | (refine wpAnyH_take (i := 11) (v := _) rfl (by kernel_rfl) (by kernel_rfl) (by kernel_rfl) (fun _ _ _ h => h) (Or.inr ⟨?_, rfl⟩) (by assumption) ?_; rfl) | (refine wpAnyH_take (i := 11) (v := ?_) rfl (by kernel_rfl) (by kernel_rfl) (by kernel_rfl) (fun _ _ _ h => h) (Or.inl ⟨?_, ?_⟩) (by assumption) ?_; rotate_left; rfl; focus (intro w hSw; (try dsimp only at hSw); go_simp; all_goals (with_reducible rfl)))
    (try simp only [List.getElem_toArray, List.getElem_cons_zero, List.getElem_cons_succ, Act.put, List.setIfInBounds_toArray, List.set_cons_zero, List.set_cons_succ])
    have CO := Lib.hid (onel_walk zs A1 c1 w6 (HK.out _ h6).1.2)
    refine wpAnyH_ready (rs := [13]) (by kernel_rfl) (by simp) ?_
    refine AllReadyH.cons rfl (fun K hK => ?_) AllReadyH.nil
    go_simp
    go_at_call 13
    with_reducible refine CO.out.mono ?_
    rintro _ w7 ⟨kd', nm', s7, A7, m7, c7, rfl, htv7, hb7⟩
    have h7 := below_then h6 hb7
    have CP := Lib.hid (rputm_walk (oneL zs) kd' nm' s7 A7 m7 c7 w7 (htv7.low (Nat.zero_le _)))
    refine hK.out _ _ ⟨HZ.out _ hb7, HCX.out _ h7⟩ (fun hHeld => ?_)
    clear hK K CO htv7
    (try simp only [List.getElem_toArray, List.getElem_cons_zero, List.getElem_cons_succ, Act.put, List.setIfInBounds_toArray, List.set_cons_zero, List.set_cons_succ])
    refine wpAnyH_ready (rs := [14]) (by kernel_rfl) (by simp) ?_
    refine AllReadyH.cons rfl (fun K hK => ?_) AllReadyH.nil
    go_simp
    go_at_call 12
    with_reducible refine CP.out.mono ?_
    rintro _ w8 ⟨v8, rfl, hown8, hb8⟩
    have h8 := below_then h7 hb8
    obtain ⟨Au, cu, rfl, hcu, hru⟩ := own_reads hown8 (Nat.le_refl _)
    have HU := Lib.hid (str_bytes (c := cu) hru)
    refine hK.out _ _ ⟨HZ.out _ (below_then hb7 hb8), HCX.out _ h8⟩ (fun hHeld => ?_)
    clear hK K CP hown8 hru hcu hb8
    (try simp only [List.getElem_toArray, List.getElem_cons_zero, List.getElem_cons_succ, Act.put, List.setIfInBounds_toArray, List.set_cons_zero, List.set_cons_succ])
    refine wpAnyH_grow (S' := fun W => (convert 28 9 (.slice Au (putT (oneL zs)).length cu)).run Try.prog W = .ok (.string ⟨(putT (oneL zs)).toArray⟩) W ∧ ((convert 28 9 (.slice Az (putT (oneL zs)).length cz)).run Try.prog W = .ok (.string ⟨(putT (oneL zs)).toArray⟩) W ∧ ((convert 28 9 (.slice Ay (putT t).length cy)).run Try.prog W = .ok (.string ⟨(putT t).toArray⟩) W ∧ ((∀ j u, [Value.int .i64 kind, .int .i64 n, .string s, .slice A m c][j]? = some u → W.cell? ((⟨w.heap.size, 0, none⟩ : Addr).add j) = some u) ∧ (convert 28 9 (.slice Ax (putT t).length cx)).run Try.prog W = .ok (.string ⟨(putT t).toArray⟩) W)))) (fun W h => h.2) _ _ _ _ ?_
    replace hHeld := And.intro (HU.out _ (Below.refl _ _)) hHeld
    first | (refine wpAnyH_take (i := 15) (v := _) rfl (by kernel_rfl) (by kernel_rfl) (by kernel_rfl) (fun _ _ _ h => h) (Or.inr ⟨?_, rfl⟩) (by assumption) ?_; rfl) | (refine wpAnyH_take (i := 15) (v := ?_) rfl (by kernel_rfl) (by kernel_rfl) (by kernel_rfl) (fun _ _ _ h => h) (Or.inl ⟨?_, ?_⟩) (by assumption) ?_; rotate_left; rfl; focus (intro w hSw; (try dsimp only at hSw); go_simp; all_goals (with_reducible rfl)))
    (try simp only [List.getElem_toArray, List.getElem_cons_zero, List.getElem_cons_succ, Act.put, List.setIfInBounds_toArray, List.set_cons_zero, List.set_cons_succ])
    first | (refine wpAnyH_take (i := 16) (v := _) rfl (by kernel_rfl) (by kernel_rfl) (by kernel_rfl) (fun _ _ _ h => h) (Or.inr ⟨?_, rfl⟩) (by assumption) ?_; rfl) | (refine wpAnyH_take (i := 16) (v := ?_) rfl (by kernel_rfl) (by kernel_rfl) (by kernel_rfl) (fun _ _ _ h => h) (Or.inl ⟨?_, ?_⟩) (by assumption) ?_; rotate_left; rfl; focus (intro w hSw; (try dsimp only at hSw); go_simp; all_goals (with_reducible rfl)))
    (try simp only [List.getElem_toArray, List.getElem_cons_zero, List.getElem_cons_succ, Act.put, List.setIfInBounds_toArray, List.set_cons_zero, List.set_cons_succ])
    first | (refine wpAnyH_take (i := 17) (v := _) rfl (by kernel_rfl) (by kernel_rfl) (by kernel_rfl) (fun _ _ _ h => h) (Or.inr ⟨?_, rfl⟩) (by assumption) ?_; rfl) | (refine wpAnyH_take (i := 17) (v := ?_) rfl (by kernel_rfl) (by kernel_rfl) (by kernel_rfl) (fun _ _ _ h => h) (Or.inl ⟨?_, ?_⟩) (by assumption) ?_; rotate_left; rfl; focus (intro w hSw; (try dsimp only at hSw); go_simp; all_goals (with_reducible rfl)))
    (try simp only [List.getElem_toArray, List.getElem_cons_zero, List.getElem_cons_succ, Act.put, List.setIfInBounds_toArray, List.set_cons_zero, List.set_cons_succ])
    first | (refine wpAnyH_take (i := 18) (v := _) rfl (by kernel_rfl) (by kernel_rfl) (by kernel_rfl) (fun _ _ _ h => h) (Or.inr ⟨?_, rfl⟩) (by assumption) ?_; rfl) | (refine wpAnyH_take (i := 18) (v := ?_) rfl (by kernel_rfl) (by kernel_rfl) (by kernel_rfl) (fun _ _ _ h => h) (Or.inl ⟨?_, ?_⟩) (by assumption) ?_; rotate_left; rfl; focus (intro w hSw; (try dsimp only at hSw); go_simp; all_goals (with_reducible rfl)))
    (try simp only [List.getElem_toArray, List.getElem_cons_zero, List.getElem_cons_succ, Act.put, List.setIfInBounds_toArray, List.set_cons_zero, List.set_cons_succ])
    refine wpAnyH_done (by kernel_rfl) ?_ _
    have HB := Lib.hid (HK.out _ h8).1.1.1
    clear hHeld HK HCX HZ HU h6 h7 h8 hb7
    go_wp2_with fail
    go_ret
    exact ⟨rfl, HB.out⟩
end Go.Proofs.Ytnckjglohaaobaa

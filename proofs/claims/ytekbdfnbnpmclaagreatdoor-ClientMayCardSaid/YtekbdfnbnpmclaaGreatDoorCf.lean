/- client.asked, Auth; countersignref17.Auth, Knows. No condition of its own. -/
import Derived.Test.YtekbdfnbnpmclaaGreatDoorCe
set_option linter.unusedVariables false
set_option linter.unusedSimpArgs false
set_option maxRecDepth 20000
namespace Go.Proofs.YtekbdfnbnpmclaaGreatDoor
open Go.RowKit Pc
theorem shown_size : (Tryz.prog.info? 49).map (·.size) = some 2 := by kernel_rfl
def shA (a b : List UInt8) : Array Value := #[.string ⟨a.toArray⟩, .string ⟨b.toArray⟩]
theorem shA_ones (a b : List UInt8) : (shA a b).all (·.oneCell') = true := by
  rw [Array.all_eq_true_iff_forall_mem]
  intro v hv
  simp [shA] at hv
  rcases hv with rfl | rfl <;> rfl
theorem ask_le (f : Cl) : (askL f).length ≤ 131460 := by
  unfold askL
  split
  · simp
  · exact K9.key_le _
set_option maxHeartbeats 4000000 in
theorem asked_walk (f : Cl) (w : World) :
    Calls Tryz.prog 20 #[.agg f.arr] w fun e w' => e = .returned (.agg (shA f.id (askL f))) ∧ Below w.heap.size w w' := by
  have hb1 := (Below.refl w.heap.size w).alloc (Nat.le_refl _) (.cells f.arr 31)
  have hk1 := (Blk.new w 31 f.arr)
  have HB2 := Lib.hid (hb1.alloc hb1.size (.cells (shA [] []) 49))
  have HK1 := Lib.hid (hk1.alloc (.cells (shA [] []) 49))
  have HK2 := Lib.hid (Blk.new (w.alloc (.cells f.arr 31)) 49 (shA [] []))
  have hsz : (w.alloc (.cells f.arr 31)).heap.size = w.heap.size + 1 := by simp
  rw [hsz] at HK2
  have hz : (#[.string ⟨#[]⟩, .string ⟨#[]⟩] : Array Value) = shA [] [] := rfl
  obtain ⟨hc0, hc1, hc2, hc3⟩ := boxC HK1.out
  have HV : Hid (askL f = if f.sec = 0 then [] else K9.keyL f.sec) := rfl
  have ck := Lib.hid (fun W => K9.pkey_walk f.sec W)
  clear hb1 hk1 hsz
  by_cases h0 : f.sec = 0
  · have hv : Hid (askL f = []) := by show _ = _; rw [HV.out, if_pos h0]
    have h01 : (f.sec == (0 : Int)) = true := by rw [beq_iff_eq]; exact h0
    clear h0
    go_enter Tryz.func20, Tryz.ntmps20
    go_wp2_with (refine wpList_store_blk rfl 49 _ _ rfl (w.heap.size + 1) (shA [] []) (shA f.id []) _ rfl rfl HK2.out rfl shown_size (shA_ones _ _) ?_)
    refine bodyPost_ret (results_cell_row Tryz.results20 _ _ (w.heap.size + 1) _ _ _ _ rfl HK2.out.setRow Tryz.underlying49 rfl (by kernel_rfl)) rfl ⟨?_, below_setRow HB2.out (by omega) _⟩
    rw [hv.out]
  · have hv : Hid (askL f = K9.keyL f.sec) := by show _ = _; rw [HV.out, if_neg h0]
    have h01 : (f.sec == (0 : Int)) = false := by rw [beq_eq_false_iff_ne]; exact h0
    clear h0
    generalize K9.keyL f.sec = kl at ck hv
    go_enter Tryz.func20, Tryz.ntmps20
    go_wp2_with fail
    clear hz
    refine wp_region_held_drew (S := fun W => W.cell? ⟨w.heap.size, 0, none⟩ = some (.string ⟨f.id.toArray⟩) ∧ W.cell? ⟨w.heap.size, 1, none⟩ = some (.int .i64 f.sec)) (by kernel_rfl) ⟨hc0, hc1⟩ (fun hHeld => ?_)
    first | (refine wpAnyH_take (i := 0) (v := _) rfl (by kernel_rfl) (by kernel_rfl) (by kernel_rfl) (fun _ _ _ h => h) (Or.inr ⟨?_, rfl⟩) (by assumption) ?_; rfl) | (refine wpAnyH_take (i := 0) (v := ?_) rfl (by kernel_rfl) (by kernel_rfl) (by kernel_rfl) (fun _ _ _ h => h) (Or.inl ⟨?_, ?_⟩) (by assumption) ?_; rotate_left; rfl; focus (intro w hSw; (try dsimp only at hSw); go_simp; all_goals (with_reducible rfl)))
    (try simp only [List.getElem_toArray, List.getElem_cons_zero, List.getElem_cons_succ, Act.put, List.setIfInBounds_toArray, List.set_cons_zero, List.set_cons_succ])
    first | (refine wpAnyH_take (i := 1) (v := _) rfl (by kernel_rfl) (by kernel_rfl) (by kernel_rfl) (fun _ _ _ h => h) (Or.inr ⟨?_, rfl⟩) (by assumption) ?_; rfl) | (refine wpAnyH_take (i := 1) (v := ?_) rfl (by kernel_rfl) (by kernel_rfl) (by kernel_rfl) (fun _ _ _ h => h) (Or.inl ⟨?_, ?_⟩) (by assumption) ?_; rotate_left; rfl; focus (intro w hSw; (try dsimp only at hSw); go_simp; all_goals (with_reducible rfl)))
    (try simp only [List.getElem_toArray, List.getElem_cons_zero, List.getElem_cons_succ, Act.put, List.setIfInBounds_toArray, List.set_cons_zero, List.set_cons_succ])
    first | (refine wpAnyH_take (i := 2) (v := _) rfl (by kernel_rfl) (by kernel_rfl) (by kernel_rfl) (fun _ _ _ h => h) (Or.inr ⟨?_, rfl⟩) (by assumption) ?_; rfl) | (refine wpAnyH_take (i := 2) (v := ?_) rfl (by kernel_rfl) (by kernel_rfl) (by kernel_rfl) (fun _ _ _ h => h) (Or.inl ⟨?_, ?_⟩) (by assumption) ?_; rotate_left; rfl; focus (intro w hSw; (try dsimp only at hSw); go_simp; all_goals (with_reducible rfl)))
    (try simp only [List.getElem_toArray, List.getElem_cons_zero, List.getElem_cons_succ, Act.put, List.setIfInBounds_toArray, List.set_cons_zero, List.set_cons_succ])
    first | (refine wpAnyH_take (i := 3) (v := _) rfl (by kernel_rfl) (by kernel_rfl) (by kernel_rfl) (fun _ _ _ h => h) (Or.inr ⟨?_, rfl⟩) (by assumption) ?_; rfl) | (refine wpAnyH_take (i := 3) (v := ?_) rfl (by kernel_rfl) (by kernel_rfl) (by kernel_rfl) (fun _ _ _ h => h) (Or.inl ⟨?_, ?_⟩) (by assumption) ?_; rotate_left; rfl; focus (intro w hSw; (try dsimp only at hSw); go_simp; all_goals (with_reducible rfl)))
    (try simp only [List.getElem_toArray, List.getElem_cons_zero, List.getElem_cons_succ, Act.put, List.setIfInBounds_toArray, List.set_cons_zero, List.set_cons_succ])
    refine wpAnyH_ready (rs := [4]) (by kernel_rfl) (by simp) ?_
    refine AllReadyH.cons rfl (fun K hK => ?_) AllReadyH.nil
    go_simp
    go_at_call 34
    with_reducible refine (ck.out _).mono ?_
    rintro _ w2 ⟨rfl, hbn⟩
    have HB3 := Lib.hid (below_next (below_drewN HB2.out 1) hbn)
    have HK3 := Lib.hid ((HK1.out.drewN 1).below hbn (HK1.out.drewN 1).lt)
    have HN3 := Lib.hid ((HK2.out.drewN 1).below hbn (HK2.out.drewN 1).lt)
    refine hK.out _ _ ⟨(boxC HK3.out).1, (boxC HK3.out).2.1⟩ (fun hHeld => ?_)
    clear hK K hbn
    (try simp only [List.getElem_toArray, List.getElem_cons_zero, List.getElem_cons_succ, Act.put, List.setIfInBounds_toArray, List.set_cons_zero, List.set_cons_succ])
    first | (refine wpAnyH_take (i := 5) (v := _) rfl (by kernel_rfl) (by kernel_rfl) (by kernel_rfl) (fun _ _ _ h => h) (Or.inr ⟨?_, rfl⟩) (by assumption) ?_; rfl) | (refine wpAnyH_take (i := 5) (v := ?_) rfl (by kernel_rfl) (by kernel_rfl) (by kernel_rfl) (fun _ _ _ h => h) (Or.inl ⟨?_, ?_⟩) (by assumption) ?_; rotate_left; rfl; focus (intro w hSw; (try dsimp only at hSw); go_simp; all_goals (with_reducible rfl)))
    (try simp only [List.getElem_toArray, List.getElem_cons_zero, List.getElem_cons_succ, Act.put, List.setIfInBounds_toArray, List.set_cons_zero, List.set_cons_succ])
    refine wpAnyH_ready (rs := [6]) (by kernel_rfl) (by simp) ?_
    refine AllReadyH.cons rfl (fun K hK => ?_) AllReadyH.nil
    rw [if_pos (by rfl)]
    refine wp_store_blk 49 _ _ rfl (w.heap.size + 1) (shA [] []) (shA f.id kl) _ rfl rfl HN3.out rfl shown_size (shA_ones _ _) ?_
    have hk4 := HK3.out.grown (setRow_only w2 (w.heap.size + 1) (shA f.id kl)) (by simp)
    refine hK.out _ _ ⟨(boxC hk4).1, (boxC hk4).2.1⟩ (fun hHeld => ?_)
    clear hK K hk4
    (try simp only [List.getElem_toArray, List.getElem_cons_zero, List.getElem_cons_succ, Act.put, List.setIfInBounds_toArray, List.set_cons_zero, List.set_cons_succ])
    refine wpAnyH_done (by kernel_rfl) ?_ _
    go_wp2_with fail
    refine bodyPost_ret (results_cell_row Tryz.results20 _ _ (w.heap.size + 1) _ _ _ _ rfl HN3.out.setRow Tryz.underlying49 rfl (by kernel_rfl)) rfl ⟨?_, below_setRow HB3.out (by omega) _⟩
    rw [hv.out]
theorem shown_eq (a b c d : List UInt8) (W : World) : (Op.equalIn 10000 49 (.agg #[.string ⟨a.toArray⟩, .string ⟨b.toArray⟩]) (.agg #[.string ⟨c.toArray⟩, .string ⟨d.toArray⟩])).run Tryz.prog W = .ok (decide (a = c ∧ b = d)) W := by
  have hs1 : Tryz.prog.stoodInHeld 49 = false := by kernel_rfl
  have hf1 : Tryz.prog.underlying 49 = some (.struct (Tryz.prog.fieldsOf 49)) := by kernel_rfl
  rw [run_equalIn_struct W 9999 _ _ _ hf1 hs1]
  rw [show (Tryz.prog.fieldsOf 49).toList = _ from (by unfold Program.fieldsOf; rw [Tryz.underlying49])]
  have k1 := tl_injL (a := a) (b := c)
  have k2 := tl_injL (a := b) (b := d)
  generalize hx1 : (⟨a.toArray⟩ : ByteArray).toList = x1 at k1
  generalize hx2 : (⟨b.toArray⟩ : ByteArray).toList = x2 at k2
  generalize hy1 : (⟨c.toArray⟩ : ByteArray).toList = y1 at k1
  generalize hy2 : (⟨d.toArray⟩ : ByteArray).toList = y2 at k2
  have j1 : x1 = y1 ↔ a = c := ⟨k1, fun e => by rw [← hx1, e, hy1]⟩
  have j2 : x2 = y2 ↔ b = d := ⟨k2, fun e => by rw [← hx2, e, hy2]⟩
  simp [go_sem, Tryz.underlying9, hx1, hx2, hy1, hy2]
  by_cases g0 : a = c
  · by_cases g1 : b = d
    · simp [j1, j2, g0, g1]
    · simp [j1, j2, g0, g1]
  · simp [j1, j2, g0]
theorem neq_shown (a b c d : List UInt8) (W : World) : (binOp .neq 49 (.agg #[.string ⟨a.toArray⟩, .string ⟨b.toArray⟩]) (.agg #[.string ⟨c.toArray⟩, .string ⟨d.toArray⟩])).run Tryz.prog W = .ok (.bool (!decide (a = c ∧ b = d))) W := by
  rw [run_neq_struct, shown_eq]
  rfl
theorem cl_four {w : World} {B n : Nat} {ad : Addr} {fs : List Cl} (h : Reads w B 4 (some ad) n (cCells fs)) {k : Nat} {f : Cl} (hk : fs[k]? = some f) :
    w.cell? (ad.add (k * 4)) = some (.string ⟨f.id.toArray⟩) ∧ w.cell? ⟨(ad.add (k * 4)).block, (ad.add (k * 4)).off + 1, none⟩ = some (.int .i64 f.sec) ∧ w.cell? ⟨(ad.add (k * 4)).block, (ad.add (k * 4)).off + 2, none⟩ = some (.slice f.ra f.red.length f.rc) ∧ w.cell? ⟨(ad.add (k * 4)).block, (ad.add (k * 4)).off + 3, none⟩ = some (.string ⟨f.sc.toArray⟩) :=
  ⟨cl_at h hk 0 _ rfl, cl_at h hk 1 _ rfl, cl_at h hk 2 _ rfl, cl_at h hk 3 _ rfl⟩
def authV (x : Nat × Nat) : Value := .tuple #[.int .i64 x.1, .int .i64 x.2]
set_option maxHeartbeats 4000000 in
theorem auth_walk (cs : List Cl) (q s : List UInt8) (A : Option Addr) (c : Nat) (w : World) (hr : ClsAt w A c cs) (hm : cs.length ≤ 1000000) :
    Calls Tryz.prog 10 #[.slice A cs.length c, .string ⟨q.toArray⟩, .string ⟨s.toArray⟩] w fun e w' => e = .returned (authV (authE cs q s)) ∧ Below w.heap.size w w' := by
  have cf := Lib.hid (find_walk q cs A c w hr hm)
  have HR := Lib.hid hr
  unfold findV at cf
  have hcl := hr.1
  clear hr
  cases hf : findI q cs with
  | none =>
    have hv : Hid (authE cs q s = (0, 9)) := by show _ = _; rw [authE, hf]
    rw [hf] at cf
    clear hf
    go_enter Tryz.func10, Tryz.ntmps10
    go_wp2_with fail
    refine cf.out.mono ?_
    rintro _ w1 ⟨rfl, hbn⟩
    have HB2 := Lib.hid hbn
    clear hbn
    go_wp2_with fail
    go_ret2
    exact ⟨by rw [hv.out]; rfl, HB2.out⟩
  | some k =>
    obtain ⟨f, hfk, hid⟩ := findI_lt hf
    have hkl := (List.getElem?_eq_some_iff.1 hfk).1
    have hne := fun W : World => neq_shown q s f.id (askL f) W
    have hqg : Tryz.prog.eqGuardType Tryz.prog.depth 49 = false := by kernel_rfl
    have ca := Lib.hid (fun W => asked_walk f W)
    rw [hf] at cf
    rw [show f.arr = #[.string ⟨f.id.toArray⟩, .int .i64 f.sec, .slice f.ra f.red.length f.rc, .string ⟨f.sc.toArray⟩] from rfl, show shA f.id (askL f) = #[.string ⟨f.id.toArray⟩, .string ⟨(askL f).toArray⟩] from rfl] at ca
    have hk1 : (k : Int) + 1 - 1 = (k : Int) := by omega
    by_cases hs : s = askL f
    · have hv : Hid (authE cs q s = (k + 1, 0)) := by show _ = _; rw [authE, hf]; simp only [hfk]; rw [if_pos hs]
      rw [show (!decide (q = f.id ∧ s = askL f)) = false by simp [hs, hid]] at hne
      clear hs hid hf
      obtain ⟨ad, rfl⟩ : ∃ ad, A = some ad := by obtain ⟨ad, h, _⟩ := HR.out.2.1.2 (by omega); exact ⟨ad, h⟩
      go_enter Tryz.func10, Tryz.ntmps10
      go_wp2_with fail
      refine cf.out.mono ?_
      rintro _ w1 ⟨rfl, hbn⟩
      have hR := HR.out.below hbn
      obtain ⟨hx0, hx1, hx2, hx3⟩ := cl_four hR.2.1 hfk
      have HB2 := Lib.hid hbn
      clear hbn hR
      go_wp2_with fail
      refine (ca.out _).mono ?_
      rintro _ w2 ⟨rfl, hbn⟩
      have HB3 := Lib.hid (below_next HB2.out hbn)
      clear hbn
      go_wp2_with fail
      go_ret2
      exact ⟨by rw [hv.out]; rfl, HB3.out⟩
    · have hv : Hid (authE cs q s = (0, 9)) := by show _ = _; rw [authE, hf]; simp only [hfk]; rw [if_neg hs]
      rw [show (!decide (q = f.id ∧ s = askL f)) = true by simp [hs]] at hne
      clear hs hid hf
      obtain ⟨ad, rfl⟩ : ∃ ad, A = some ad := by obtain ⟨ad, h, _⟩ := HR.out.2.1.2 (by omega); exact ⟨ad, h⟩
      go_enter Tryz.func10, Tryz.ntmps10
      go_wp2_with fail
      refine cf.out.mono ?_
      rintro _ w1 ⟨rfl, hbn⟩
      have hR := HR.out.below hbn
      obtain ⟨hx0, hx1, hx2, hx3⟩ := cl_four hR.2.1 hfk
      have HB2 := Lib.hid hbn
      clear hbn hR
      go_wp2_with fail
      refine (ca.out _).mono ?_
      rintro _ w2 ⟨rfl, hbn⟩
      have HB3 := Lib.hid (below_next HB2.out hbn)
      clear hbn
      go_wp2_with fail
      go_ret2
      exact ⟨by rw [hv.out]; rfl, HB3.out⟩
end Go.Proofs.YtekbdfnbnpmclaaGreatDoor

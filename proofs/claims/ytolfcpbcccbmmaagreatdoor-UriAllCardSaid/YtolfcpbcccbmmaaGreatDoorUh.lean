/- uri.May, Target, Print. Condition: the table of digits is laid. -/
import Derived.Test.YtolfcpbcccbmmaaGreatDoorUg
set_option linter.unusedVariables false
set_option linter.unusedSimpArgs false
set_option maxRecDepth 20000
namespace Go.Proofs.YtolfcpbcccbmmaaGreatDoor
open Go.RowKit Pc
set_option maxHeartbeats 16000000 in
set_option maxRecDepth 100000 in
theorem may_walk (u : Ur) (A : Option Addr) (c : Nat) (w : World) (h : UrAt w A c u) (hd : DigOk w) (hq : u.q.length ≤ 4000) :
    Calls Tryz.prog 14 #[.agg (u.arr A c)] w fun e w' => e = .returned (.bool (mayB u)) ∧ Below w.heap.size w w' := by
  have hmf : ∀ (fn : Fn) (first cap : Array Value) (w : World), (Instr.makeFunc fn first cap).run Tryz.prog w = .ok (.func fn first cap) w := fun _ _ _ _ => rfl
  obtain ⟨hK0, hc0, hc1, hc2⟩ := boxU (Blk.new w 28 (u.arr A c))
  have hU1 := hK0.alloc (.cells #[.string ⟨u.h.toArray⟩, .string ⟨u.p.toArray⟩] 47)
  have hP1 : Blk ((w.alloc (.cells (u.arr A c) 28)).alloc (.cells #[.string ⟨u.h.toArray⟩, .string ⟨u.p.toArray⟩] 47)) (w.heap.size + 1) 47 #[.string ⟨u.h.toArray⟩, .string ⟨u.p.toArray⟩] := by
    have := Blk.new (w.alloc (.cells (u.arr A c) 28)) 47 #[.string ⟨u.h.toArray⟩, .string ⟨u.p.toArray⟩]
    rw [show (w.alloc (.cells (u.arr A c) 28)).heap.size = w.heap.size + 1 by simp] at this
    exact this
  have hB0 := (Below.refl w.heap.size w).alloc (Nat.le_refl _) (.cells (u.arr A c) 28)
  have hB1 := hB0.alloc hB0.size (.cells #[.string ⟨u.h.toArray⟩, .string ⟨u.p.toArray⟩] 47)
  have HD := Lib.hid hd
  have H := Lib.hid h
  obtain ⟨_, hhl, hpl, hsl⟩ := h
  have ch := Lib.hid (fun W => hosted_walk u.h u.p W (by omega))
  have cp := Lib.hid (fun W => pathed_walk u.h u.p W (by omega))
  have ct := Lib.hid (fun W h1 h2 => target_walk u A c W h1 hq h2)
  have htl := target_len u
  clear hd hB0 hK0
  cases hh : hostB u.h with
  | false =>
    have hv := Lib.hid (mayB_false (.inl hh))
    rw [hh] at ch
    clear hh htl
    go_enter Tryz.func14, Tryz.ntmps14
    go_wp2_with fail
    refine (ch.out _).mono ?_
    rintro _ w2 ⟨rfl, hbn⟩
    have hb2 := below_next hB1 hbn
    have hU2 := hU1.below hbn hU1.lt
    have hP2 := hP1.below hbn hP1.lt
    obtain ⟨_, hu0, hu1, hu2⟩ := boxU hU2
    have hp0 : w2.cell? ⟨w.heap.size + 1, 0, none⟩ = some (.string ⟨u.h.toArray⟩) := hP2.cell 0
    have hp1 : w2.cell? ⟨w.heap.size + 1, 1, none⟩ = some (.string ⟨u.p.toArray⟩) := hP2.cell 1
    clear hbn hU1 hP1 hc0 hc1 hc2
    go_wp2_with fail
    go_ret
    exact ⟨by rw [hv.out]; rfl, hb2⟩
  | true =>
    rw [hh] at ch
    cases hp : pathB u.p with
    | false =>
      have hv := Lib.hid (mayB_false (u := u) (.inr (.inl hp)))
      rw [hp] at cp
      clear hh hp htl
      go_enter Tryz.func14, Tryz.ntmps14
      go_wp2_with fail
      refine (ch.out _).mono ?_
      rintro _ w2 ⟨rfl, hbn⟩
      have hb2 := below_next hB1 hbn
      have hU2 := hU1.below hbn hU1.lt
      have hP2 := hP1.below hbn hP1.lt
      obtain ⟨_, hu0, hu1, hu2⟩ := boxU hU2
      have hp0 : w2.cell? ⟨w.heap.size + 1, 0, none⟩ = some (.string ⟨u.h.toArray⟩) := hP2.cell 0
      have hp1 : w2.cell? ⟨w.heap.size + 1, 1, none⟩ = some (.string ⟨u.p.toArray⟩) := hP2.cell 1
      clear hbn hU1 hP1 hc0 hc1 hc2
      go_wp2_with fail
      refine (cp.out _).mono ?_
      rintro _ w3 ⟨rfl, hbn⟩
      have hb3 := below_next hb2 hbn
      have hU3 := hU2.below hbn hU2.lt
      obtain ⟨_, hv0, hv1, hv2⟩ := boxU hU3
      clear hbn hU2 hP2 hu0 hu1 hu2 hp0 hp1
      go_wp2_with fail
      go_ret
      exact ⟨by rw [hv.out]; rfl, hb3⟩
    | true =>
      rw [hp] at cp
      by_cases h24 : 24 < u.q.length
      · have hv := Lib.hid (mayB_false (u := u) (.inr (.inr (.inl h24))))
        have hdd : decide ((24 : Int) < (u.q.length : Int)) = true := by simp; omega
        clear hh hp htl
        go_enter Tryz.func14, Tryz.ntmps14
        go_wp2_with fail
        refine (ch.out _).mono ?_
        rintro _ w2 ⟨rfl, hbn⟩
        have hb2 := below_next hB1 hbn
        have hU2 := hU1.below hbn hU1.lt
        have hP2 := hP1.below hbn hP1.lt
        obtain ⟨_, hu0, hu1, hu2⟩ := boxU hU2
        have hp0 : w2.cell? ⟨w.heap.size + 1, 0, none⟩ = some (.string ⟨u.h.toArray⟩) := hP2.cell 0
        have hp1 : w2.cell? ⟨w.heap.size + 1, 1, none⟩ = some (.string ⟨u.p.toArray⟩) := hP2.cell 1
        clear hbn hU1 hP1 hc0 hc1 hc2
        go_wp2_with fail
        refine (cp.out _).mono ?_
        rintro _ w3 ⟨rfl, hbn⟩
        have hb3 := below_next hb2 hbn
        have hU3 := hU2.below hbn hU2.lt
        obtain ⟨_, hv0, hv1, hv2⟩ := boxU hU3
        clear hbn hU2 hP2 hu0 hu1 hu2 hp0 hp1
        go_wp2_with fail
        go_ret
        exact ⟨by rw [hv.out]; rfl, hb3⟩
      · have hdd : decide ((24 : Int) < (u.q.length : Int)) = false := by simp; omega
        cases hun : unlikeQ u.q with
        | false =>
          have hv := Lib.hid (mayB_false (u := u) (.inr (.inr (.inr hun))))
          clear hh hp htl
          go_enter Tryz.func14, Tryz.ntmps14
          go_wp2_with fail
          refine (ch.out _).mono ?_
          rintro _ w2 ⟨rfl, hbn⟩
          have hb2 := below_next hB1 hbn
          have hU2 := hU1.below hbn hU1.lt
          have hP2 := hP1.below hbn hP1.lt
          obtain ⟨_, hu0, hu1, hu2⟩ := boxU hU2
          have hp0 : w2.cell? ⟨w.heap.size + 1, 0, none⟩ = some (.string ⟨u.h.toArray⟩) := hP2.cell 0
          have hp1 : w2.cell? ⟨w.heap.size + 1, 1, none⟩ = some (.string ⟨u.p.toArray⟩) := hP2.cell 1
          clear hbn hU1 hP1 hc0 hc1 hc2
          go_wp2_with fail
          refine (cp.out _).mono ?_
          rintro _ w3 ⟨rfl, hbn⟩
          have hb3 := below_next hb2 hbn
          have hU3 := hU2.below hbn hU2.lt
          obtain ⟨_, hv0, hv1, hv2⟩ := boxU hU3
          clear hbn hU2 hP2 hu0 hu1 hu2 hp0 hp1
          go_wp2_with fail
          have hlt3 : w.heap.size < w3.heap.size := hU3.lt
          have hSn : SeenAt (w3.alloc (.cells #[.slice none 0 0] 54)).drew w3.heap.size [] := ⟨_, (Blk.new w3 54 #[.slice none 0 0]).drew, World.ownsRow_nil _ _ _ _⟩
          have hrd : Reads (w3.alloc (.cells #[.slice none 0 0] 54)).drew w3.heap.size 2 A u.q.length (fCells u.q) := ((H.out.below hb3).fs.2.2.alloc (Nat.le_refl _) _).drew
          have ctw := Lib.hid (tcontains_walk w3.heap.size u.q A c _ hrd H.out.fs.1 hq hSn)
          have hU4 := (hU3.alloc (.cells #[.slice none 0 0] 54)).drew
          have hb4 := (hb3.alloc hb3.size (.cells #[.slice none 0 0] 54)).drew
          have hS0 := boxU hU4
          clear hrd hSn hv0 hv1 hv2
          rw [hun] at ctw
          clear hun
          simp only [Bool.not_false] at ctw
          refine wp_region_held_drew (S := fun W => Blk W w.heap.size 28 (u.arr A c) ∧ W.cell? ⟨w.heap.size, 0, none⟩ = some (.string ⟨u.h.toArray⟩) ∧ W.cell? ⟨w.heap.size, 1, none⟩ = some (.string ⟨u.p.toArray⟩) ∧ W.cell? ⟨w.heap.size, 2, none⟩ = some (.slice A u.q.length c)) (by kernel_rfl) hS0 (fun hHeld => ?_)
          first | (refine wpAnyH_take (i := 0) (v := _) rfl (by kernel_rfl) (by kernel_rfl) (by kernel_rfl) (fun _ _ _ h => h) (Or.inr ⟨?_, rfl⟩) (by assumption) ?_; rfl) | (refine wpAnyH_take (i := 0) (v := ?_) rfl (by kernel_rfl) (by kernel_rfl) (by kernel_rfl) (fun _ _ _ h => h) (Or.inl ⟨?_, ?_⟩) (by assumption) ?_; rotate_left; rfl; focus (intro w hSw; (try dsimp only at hSw); go_simp; all_goals (with_reducible rfl)))
          (try simp only [List.getElem_toArray, List.getElem_cons_zero, List.getElem_cons_succ, Act.put, List.setIfInBounds_toArray, List.set_cons_zero, List.set_cons_succ])
          first | (refine wpAnyH_take (i := 1) (v := _) rfl (by kernel_rfl) (by kernel_rfl) (by kernel_rfl) (fun _ _ _ h => h) (Or.inr ⟨?_, rfl⟩) (by assumption) ?_; rfl) | (refine wpAnyH_take (i := 1) (v := ?_) rfl (by kernel_rfl) (by kernel_rfl) (by kernel_rfl) (fun _ _ _ h => h) (Or.inl ⟨?_, ?_⟩) (by assumption) ?_; rotate_left; rfl; focus (intro w hSw; (try dsimp only at hSw); go_simp; all_goals (with_reducible rfl)))
          (try simp only [List.getElem_toArray, List.getElem_cons_zero, List.getElem_cons_succ, Act.put, List.setIfInBounds_toArray, List.set_cons_zero, List.set_cons_succ])
          first | (refine wpAnyH_take (i := 2) (v := _) rfl (by kernel_rfl) (by kernel_rfl) (by kernel_rfl) (fun _ _ _ h => h) (Or.inr ⟨?_, rfl⟩) (by assumption) ?_; rfl) | (refine wpAnyH_take (i := 2) (v := ?_) rfl (by kernel_rfl) (by kernel_rfl) (by kernel_rfl) (fun _ _ _ h => h) (Or.inl ⟨?_, ?_⟩) (by assumption) ?_; rotate_left; rfl; focus (intro w hSw; (try dsimp only at hSw); go_simp; all_goals (with_reducible rfl)))
          (try simp only [List.getElem_toArray, List.getElem_cons_zero, List.getElem_cons_succ, Act.put, List.setIfInBounds_toArray, List.set_cons_zero, List.set_cons_succ])
          refine wpAnyH_ready (rs := [3]) (by kernel_rfl) (by simp) ?_
          refine AllReadyH.cons rfl (fun K hK => ?_) AllReadyH.nil
          go_simp
          go_at_call 32
          with_reducible refine ctw.out.mono ?_
          rintro _ w6 ⟨rfl, hbn⟩
          have hb6 : Below w.heap.size w w6 := hb4.trans (hbn.mono (Nat.le_of_lt hlt3))
          have hU6 := hU4.below hbn hlt3
          refine hK.out _ _ (boxU hU6) (fun hHeld => ?_)
          clear hK K hbn
          (try simp only [List.getElem_toArray, List.getElem_cons_zero, List.getElem_cons_succ, Act.put, List.setIfInBounds_toArray, List.set_cons_zero, List.set_cons_succ])
          first | (refine wpAnyH_take (i := 4) (v := _) rfl (by kernel_rfl) (by kernel_rfl) (by kernel_rfl) (fun _ _ _ h => h) (Or.inr ⟨?_, rfl⟩) (by assumption) ?_; rfl) | (refine wpAnyH_take (i := 4) (v := ?_) rfl (by kernel_rfl) (by kernel_rfl) (by kernel_rfl) (fun _ _ _ h => h) (Or.inl ⟨?_, ?_⟩) (by assumption) ?_; rotate_left; rfl; focus (intro w hSw; (try dsimp only at hSw); go_simp; all_goals (with_reducible rfl)))
          (try simp only [List.getElem_toArray, List.getElem_cons_zero, List.getElem_cons_succ, Act.put, List.setIfInBounds_toArray, List.set_cons_zero, List.set_cons_succ])
          first | (refine wpAnyH_take (i := 5) (v := _) rfl (by kernel_rfl) (by kernel_rfl) (by kernel_rfl) (fun _ _ _ h => h) (Or.inr ⟨?_, rfl⟩) (by assumption) ?_; rfl) | (refine wpAnyH_take (i := 5) (v := ?_) rfl (by kernel_rfl) (by kernel_rfl) (by kernel_rfl) (fun _ _ _ h => h) (Or.inl ⟨?_, ?_⟩) (by assumption) ?_; rotate_left; rfl; focus (intro w hSw; (try dsimp only at hSw); go_simp; all_goals (with_reducible rfl)))
          (try simp only [List.getElem_toArray, List.getElem_cons_zero, List.getElem_cons_succ, Act.put, List.setIfInBounds_toArray, List.set_cons_zero, List.set_cons_succ])
          first | (refine wpAnyH_take (i := 6) (v := _) rfl (by kernel_rfl) (by kernel_rfl) (by kernel_rfl) (fun _ _ _ h => h) (Or.inr ⟨?_, rfl⟩) (by assumption) ?_; rfl) | (refine wpAnyH_take (i := 6) (v := ?_) rfl (by kernel_rfl) (by kernel_rfl) (by kernel_rfl) (fun _ _ _ h => h) (Or.inl ⟨?_, ?_⟩) (by assumption) ?_; rotate_left; rfl; focus (intro w hSw; (try dsimp only at hSw); go_simp; all_goals (with_reducible rfl)))
          (try simp only [List.getElem_toArray, List.getElem_cons_zero, List.getElem_cons_succ, Act.put, List.setIfInBounds_toArray, List.set_cons_zero, List.set_cons_succ])
          first | (refine wpAnyH_take (i := 7) (v := _) rfl (by kernel_rfl) (by kernel_rfl) (by kernel_rfl) (fun _ _ _ h => h) (Or.inr ⟨?_, rfl⟩) (by assumption) ?_; rfl) | (refine wpAnyH_take (i := 7) (v := ?_) rfl (by kernel_rfl) (by kernel_rfl) (by kernel_rfl) (fun _ _ _ h => h) (Or.inl ⟨?_, ?_⟩) (by assumption) ?_; rotate_left; rfl; focus (intro w hSw; (try dsimp only at hSw); go_simp; all_goals (with_reducible rfl)))
          (try simp only [List.getElem_toArray, List.getElem_cons_zero, List.getElem_cons_succ, Act.put, List.setIfInBounds_toArray, List.set_cons_zero, List.set_cons_succ])
          first | (refine wpAnyH_take (i := 8) (v := _) rfl (by kernel_rfl) (by kernel_rfl) (by kernel_rfl) (fun _ _ _ h => h) (Or.inr ⟨?_, rfl⟩) (by assumption) ?_; rfl) | (refine wpAnyH_take (i := 8) (v := ?_) rfl (by kernel_rfl) (by kernel_rfl) (by kernel_rfl) (fun _ _ _ h => h) (Or.inl ⟨?_, ?_⟩) (by assumption) ?_; rotate_left; rfl; focus (intro w hSw; (try dsimp only at hSw); go_simp; all_goals (with_reducible rfl)))
          (try simp only [List.getElem_toArray, List.getElem_cons_zero, List.getElem_cons_succ, Act.put, List.setIfInBounds_toArray, List.set_cons_zero, List.set_cons_succ])
          first | (refine wpAnyH_take (i := 9) (v := _) rfl (by kernel_rfl) (by kernel_rfl) (by kernel_rfl) (fun _ _ _ h => h) (Or.inr ⟨?_, rfl⟩) (by assumption) ?_; rfl) | (refine wpAnyH_take (i := 9) (v := ?_) rfl (by kernel_rfl) (by kernel_rfl) (by kernel_rfl) (fun _ _ _ h => h) (Or.inl ⟨?_, ?_⟩) (by assumption) ?_; rotate_left; rfl; focus (intro w hSw; (try dsimp only at hSw); go_simp; all_goals (with_reducible rfl)))
          (try simp only [List.getElem_toArray, List.getElem_cons_zero, List.getElem_cons_succ, Act.put, List.setIfInBounds_toArray, List.set_cons_zero, List.set_cons_succ])
          first | (refine wpAnyH_take (i := 10) (v := _) rfl (by kernel_rfl) (by kernel_rfl) (by kernel_rfl) (fun _ _ _ h => h) (Or.inr ⟨?_, rfl⟩) (by assumption) ?_; rfl) | (refine wpAnyH_take (i := 10) (v := ?_) rfl (by kernel_rfl) (by kernel_rfl) (by kernel_rfl) (fun _ _ _ h => h) (Or.inl ⟨?_, ?_⟩) (by assumption) ?_; rotate_left; rfl; focus (intro w hSw; (try dsimp only at hSw); go_simp; all_goals (with_reducible rfl)))
          (try simp only [List.getElem_toArray, List.getElem_cons_zero, List.getElem_cons_succ, Act.put, List.setIfInBounds_toArray, List.set_cons_zero, List.set_cons_succ])
          first | (refine wpAnyH_take (i := 11) (v := _) rfl (by kernel_rfl) (by kernel_rfl) (by kernel_rfl) (fun _ _ _ h => h) (Or.inr ⟨?_, rfl⟩) (by assumption) ?_; rfl) | (refine wpAnyH_take (i := 11) (v := ?_) rfl (by kernel_rfl) (by kernel_rfl) (by kernel_rfl) (fun _ _ _ h => h) (Or.inl ⟨?_, ?_⟩) (by assumption) ?_; rotate_left; rfl; focus (intro w hSw; (try dsimp only at hSw); go_simp; all_goals (with_reducible rfl)))
          (try simp only [List.getElem_toArray, List.getElem_cons_zero, List.getElem_cons_succ, Act.put, List.setIfInBounds_toArray, List.set_cons_zero, List.set_cons_succ])
          first | (refine wpAnyH_take (i := 12) (v := _) rfl (by kernel_rfl) (by kernel_rfl) (by kernel_rfl) (fun _ _ _ h => h) (Or.inr ⟨?_, rfl⟩) (by assumption) ?_; rfl) | (refine wpAnyH_take (i := 12) (v := ?_) rfl (by kernel_rfl) (by kernel_rfl) (by kernel_rfl) (fun _ _ _ h => h) (Or.inl ⟨?_, ?_⟩) (by assumption) ?_; rotate_left; rfl; focus (intro w hSw; (try dsimp only at hSw); go_simp; all_goals (with_reducible rfl)))
          (try simp only [List.getElem_toArray, List.getElem_cons_zero, List.getElem_cons_succ, Act.put, List.setIfInBounds_toArray, List.set_cons_zero, List.set_cons_succ])
          first | (refine wpAnyH_take (i := 13) (v := _) rfl (by kernel_rfl) (by kernel_rfl) (by kernel_rfl) (fun _ _ _ h => h) (Or.inr ⟨?_, rfl⟩) (by assumption) ?_; rfl) | (refine wpAnyH_take (i := 13) (v := ?_) rfl (by kernel_rfl) (by kernel_rfl) (by kernel_rfl) (fun _ _ _ h => h) (Or.inl ⟨?_, ?_⟩) (by assumption) ?_; rotate_left; rfl; focus (intro w hSw; (try dsimp only at hSw); go_simp; all_goals (with_reducible rfl)))
          (try simp only [List.getElem_toArray, List.getElem_cons_zero, List.getElem_cons_succ, Act.put, List.setIfInBounds_toArray, List.set_cons_zero, List.set_cons_succ])
          first | (refine wpAnyH_take (i := 14) (v := _) rfl (by kernel_rfl) (by kernel_rfl) (by kernel_rfl) (fun _ _ _ h => h) (Or.inr ⟨?_, rfl⟩) (by assumption) ?_; rfl) | (refine wpAnyH_take (i := 14) (v := ?_) rfl (by kernel_rfl) (by kernel_rfl) (by kernel_rfl) (fun _ _ _ h => h) (Or.inl ⟨?_, ?_⟩) (by assumption) ?_; rotate_left; rfl; focus (intro w hSw; (try dsimp only at hSw); go_simp; all_goals (with_reducible rfl)))
          (try simp only [List.getElem_toArray, List.getElem_cons_zero, List.getElem_cons_succ, Act.put, List.setIfInBounds_toArray, List.set_cons_zero, List.set_cons_succ])
          first | (refine wpAnyH_take (i := 15) (v := _) rfl (by kernel_rfl) (by kernel_rfl) (by kernel_rfl) (fun _ _ _ h => h) (Or.inr ⟨?_, rfl⟩) (by assumption) ?_; rfl) | (refine wpAnyH_take (i := 15) (v := ?_) rfl (by kernel_rfl) (by kernel_rfl) (by kernel_rfl) (fun _ _ _ h => h) (Or.inl ⟨?_, ?_⟩) (by assumption) ?_; rotate_left; rfl; focus (intro w hSw; (try dsimp only at hSw); go_simp; all_goals (with_reducible rfl)))
          (try simp only [List.getElem_toArray, List.getElem_cons_zero, List.getElem_cons_succ, Act.put, List.setIfInBounds_toArray, List.set_cons_zero, List.set_cons_succ])
          first | (refine wpAnyH_take (i := 16) (v := _) rfl (by kernel_rfl) (by kernel_rfl) (by kernel_rfl) (fun _ _ _ h => h) (Or.inr ⟨?_, rfl⟩) (by assumption) ?_; rfl) | (refine wpAnyH_take (i := 16) (v := ?_) rfl (by kernel_rfl) (by kernel_rfl) (by kernel_rfl) (fun _ _ _ h => h) (Or.inl ⟨?_, ?_⟩) (by assumption) ?_; rotate_left; rfl; focus (intro w hSw; (try dsimp only at hSw); go_simp; all_goals (with_reducible rfl)))
          (try simp only [List.getElem_toArray, List.getElem_cons_zero, List.getElem_cons_succ, Act.put, List.setIfInBounds_toArray, List.set_cons_zero, List.set_cons_succ])
          refine wpAnyH_done (by kernel_rfl) ?_ _
          clear hHeld hS0
          go_wp2_with fail
          go_ret
          exact ⟨by rw [hv.out]; rfl, hb6⟩
        | true =>
          have hv : Hid (mayB u = decide ((8 : Int) + (u.h.length : Int) + ((targetL u).length : Int) ≤ 1024)) := mayB_last hh hp (by omega) hun
          have hx2 := size_mks (targetL u)
          have hww : Hid (IntKind.i64.wrap (IntKind.i64.wrap ((8 : Int) + (u.h.length : Int)) + ((targetL u).length : Int)) = 8 + (u.h.length : Int) + ((targetL u).length : Int)) := by
            show _ = _
            rw [IntKind.wrap_i64, IntKind.wrap_i64]
            omega
          clear hh hp
          go_enter Tryz.func14, Tryz.ntmps14
          go_wp2_with fail
          refine (ch.out _).mono ?_
          rintro _ w2 ⟨rfl, hbn⟩
          have hb2 := below_next hB1 hbn
          have hU2 := hU1.below hbn hU1.lt
          have hP2 := hP1.below hbn hP1.lt
          obtain ⟨_, hu0, hu1, hu2⟩ := boxU hU2
          have hp0 : w2.cell? ⟨w.heap.size + 1, 0, none⟩ = some (.string ⟨u.h.toArray⟩) := hP2.cell 0
          have hp1 : w2.cell? ⟨w.heap.size + 1, 1, none⟩ = some (.string ⟨u.p.toArray⟩) := hP2.cell 1
          clear hbn hU1 hP1 hc0 hc1 hc2
          go_wp2_with fail
          refine (cp.out _).mono ?_
          rintro _ w3 ⟨rfl, hbn⟩
          have hb3 := below_next hb2 hbn
          have hU3 := hU2.below hbn hU2.lt
          obtain ⟨_, hv0, hv1, hv2⟩ := boxU hU3
          clear hbn hU2 hP2 hu0 hu1 hu2 hp0 hp1
          go_wp2_with fail
          have hlt3 : w.heap.size < w3.heap.size := hU3.lt
          have hSn : SeenAt (w3.alloc (.cells #[.slice none 0 0] 54)).drew w3.heap.size [] := ⟨_, (Blk.new w3 54 #[.slice none 0 0]).drew, World.ownsRow_nil _ _ _ _⟩
          have hrd : Reads (w3.alloc (.cells #[.slice none 0 0] 54)).drew w3.heap.size 2 A u.q.length (fCells u.q) := ((H.out.below hb3).fs.2.2.alloc (Nat.le_refl _) _).drew
          have ctw := Lib.hid (tcontains_walk w3.heap.size u.q A c _ hrd H.out.fs.1 hq hSn)
          have hU4 := (hU3.alloc (.cells #[.slice none 0 0] 54)).drew
          have hb4 := (hb3.alloc hb3.size (.cells #[.slice none 0 0] 54)).drew
          have hS0 := boxU hU4
          clear hrd hSn hv0 hv1 hv2
          rw [hun] at ctw
          clear hun
          simp only [Bool.not_true] at ctw
          refine wp_region_held_drew (S := fun W => Blk W w.heap.size 28 (u.arr A c) ∧ W.cell? ⟨w.heap.size, 0, none⟩ = some (.string ⟨u.h.toArray⟩) ∧ W.cell? ⟨w.heap.size, 1, none⟩ = some (.string ⟨u.p.toArray⟩) ∧ W.cell? ⟨w.heap.size, 2, none⟩ = some (.slice A u.q.length c)) (by kernel_rfl) hS0 (fun hHeld => ?_)
          first | (refine wpAnyH_take (i := 0) (v := _) rfl (by kernel_rfl) (by kernel_rfl) (by kernel_rfl) (fun _ _ _ h => h) (Or.inr ⟨?_, rfl⟩) (by assumption) ?_; rfl) | (refine wpAnyH_take (i := 0) (v := ?_) rfl (by kernel_rfl) (by kernel_rfl) (by kernel_rfl) (fun _ _ _ h => h) (Or.inl ⟨?_, ?_⟩) (by assumption) ?_; rotate_left; rfl; focus (intro w hSw; (try dsimp only at hSw); go_simp; all_goals (with_reducible rfl)))
          (try simp only [List.getElem_toArray, List.getElem_cons_zero, List.getElem_cons_succ, Act.put, List.setIfInBounds_toArray, List.set_cons_zero, List.set_cons_succ])
          first | (refine wpAnyH_take (i := 1) (v := _) rfl (by kernel_rfl) (by kernel_rfl) (by kernel_rfl) (fun _ _ _ h => h) (Or.inr ⟨?_, rfl⟩) (by assumption) ?_; rfl) | (refine wpAnyH_take (i := 1) (v := ?_) rfl (by kernel_rfl) (by kernel_rfl) (by kernel_rfl) (fun _ _ _ h => h) (Or.inl ⟨?_, ?_⟩) (by assumption) ?_; rotate_left; rfl; focus (intro w hSw; (try dsimp only at hSw); go_simp; all_goals (with_reducible rfl)))
          (try simp only [List.getElem_toArray, List.getElem_cons_zero, List.getElem_cons_succ, Act.put, List.setIfInBounds_toArray, List.set_cons_zero, List.set_cons_succ])
          first | (refine wpAnyH_take (i := 2) (v := _) rfl (by kernel_rfl) (by kernel_rfl) (by kernel_rfl) (fun _ _ _ h => h) (Or.inr ⟨?_, rfl⟩) (by assumption) ?_; rfl) | (refine wpAnyH_take (i := 2) (v := ?_) rfl (by kernel_rfl) (by kernel_rfl) (by kernel_rfl) (fun _ _ _ h => h) (Or.inl ⟨?_, ?_⟩) (by assumption) ?_; rotate_left; rfl; focus (intro w hSw; (try dsimp only at hSw); go_simp; all_goals (with_reducible rfl)))
          (try simp only [List.getElem_toArray, List.getElem_cons_zero, List.getElem_cons_succ, Act.put, List.setIfInBounds_toArray, List.set_cons_zero, List.set_cons_succ])
          refine wpAnyH_ready (rs := [3]) (by kernel_rfl) (by simp) ?_
          refine AllReadyH.cons rfl (fun K hK => ?_) AllReadyH.nil
          go_simp
          go_at_call 32
          with_reducible refine ctw.out.mono ?_
          rintro _ w6 ⟨rfl, hbn⟩
          have hb6 : Below w.heap.size w w6 := hb4.trans (hbn.mono (Nat.le_of_lt hlt3))
          have hU6 := hU4.below hbn hlt3
          refine hK.out _ _ (boxU hU6) (fun hHeld => ?_)
          clear hK K hbn
          (try simp only [List.getElem_toArray, List.getElem_cons_zero, List.getElem_cons_succ, Act.put, List.setIfInBounds_toArray, List.set_cons_zero, List.set_cons_succ])
          first | (refine wpAnyH_take (i := 4) (v := _) rfl (by kernel_rfl) (by kernel_rfl) (by kernel_rfl) (fun _ _ _ h => h) (Or.inr ⟨?_, rfl⟩) (by assumption) ?_; rfl) | (refine wpAnyH_take (i := 4) (v := ?_) rfl (by kernel_rfl) (by kernel_rfl) (by kernel_rfl) (fun _ _ _ h => h) (Or.inl ⟨?_, ?_⟩) (by assumption) ?_; rotate_left; rfl; focus (intro w hSw; (try dsimp only at hSw); go_simp; all_goals (with_reducible rfl)))
          (try simp only [List.getElem_toArray, List.getElem_cons_zero, List.getElem_cons_succ, Act.put, List.setIfInBounds_toArray, List.set_cons_zero, List.set_cons_succ])
          first | (refine wpAnyH_take (i := 5) (v := _) rfl (by kernel_rfl) (by kernel_rfl) (by kernel_rfl) (fun _ _ _ h => h) (Or.inr ⟨?_, rfl⟩) (by assumption) ?_; rfl) | (refine wpAnyH_take (i := 5) (v := ?_) rfl (by kernel_rfl) (by kernel_rfl) (by kernel_rfl) (fun _ _ _ h => h) (Or.inl ⟨?_, ?_⟩) (by assumption) ?_; rotate_left; rfl; focus (intro w hSw; (try dsimp only at hSw); go_simp; all_goals (with_reducible rfl)))
          (try simp only [List.getElem_toArray, List.getElem_cons_zero, List.getElem_cons_succ, Act.put, List.setIfInBounds_toArray, List.set_cons_zero, List.set_cons_succ])
          first | (refine wpAnyH_take (i := 6) (v := _) rfl (by kernel_rfl) (by kernel_rfl) (by kernel_rfl) (fun _ _ _ h => h) (Or.inr ⟨?_, rfl⟩) (by assumption) ?_; rfl) | (refine wpAnyH_take (i := 6) (v := ?_) rfl (by kernel_rfl) (by kernel_rfl) (by kernel_rfl) (fun _ _ _ h => h) (Or.inl ⟨?_, ?_⟩) (by assumption) ?_; rotate_left; rfl; focus (intro w hSw; (try dsimp only at hSw); go_simp; all_goals (with_reducible rfl)))
          (try simp only [List.getElem_toArray, List.getElem_cons_zero, List.getElem_cons_succ, Act.put, List.setIfInBounds_toArray, List.set_cons_zero, List.set_cons_succ])
          first | (refine wpAnyH_take (i := 7) (v := _) rfl (by kernel_rfl) (by kernel_rfl) (by kernel_rfl) (fun _ _ _ h => h) (Or.inr ⟨?_, rfl⟩) (by assumption) ?_; rfl) | (refine wpAnyH_take (i := 7) (v := ?_) rfl (by kernel_rfl) (by kernel_rfl) (by kernel_rfl) (fun _ _ _ h => h) (Or.inl ⟨?_, ?_⟩) (by assumption) ?_; rotate_left; rfl; focus (intro w hSw; (try dsimp only at hSw); go_simp; all_goals (with_reducible rfl)))
          (try simp only [List.getElem_toArray, List.getElem_cons_zero, List.getElem_cons_succ, Act.put, List.setIfInBounds_toArray, List.set_cons_zero, List.set_cons_succ])
          first | (refine wpAnyH_take (i := 8) (v := _) rfl (by kernel_rfl) (by kernel_rfl) (by kernel_rfl) (fun _ _ _ h => h) (Or.inr ⟨?_, rfl⟩) (by assumption) ?_; rfl) | (refine wpAnyH_take (i := 8) (v := ?_) rfl (by kernel_rfl) (by kernel_rfl) (by kernel_rfl) (fun _ _ _ h => h) (Or.inl ⟨?_, ?_⟩) (by assumption) ?_; rotate_left; rfl; focus (intro w hSw; (try dsimp only at hSw); go_simp; all_goals (with_reducible rfl)))
          (try simp only [List.getElem_toArray, List.getElem_cons_zero, List.getElem_cons_succ, Act.put, List.setIfInBounds_toArray, List.set_cons_zero, List.set_cons_succ])
          first | (refine wpAnyH_take (i := 9) (v := _) rfl (by kernel_rfl) (by kernel_rfl) (by kernel_rfl) (fun _ _ _ h => h) (Or.inr ⟨?_, rfl⟩) (by assumption) ?_; rfl) | (refine wpAnyH_take (i := 9) (v := ?_) rfl (by kernel_rfl) (by kernel_rfl) (by kernel_rfl) (fun _ _ _ h => h) (Or.inl ⟨?_, ?_⟩) (by assumption) ?_; rotate_left; rfl; focus (intro w hSw; (try dsimp only at hSw); go_simp; all_goals (with_reducible rfl)))
          (try simp only [List.getElem_toArray, List.getElem_cons_zero, List.getElem_cons_succ, Act.put, List.setIfInBounds_toArray, List.set_cons_zero, List.set_cons_succ])
          refine wpAnyH_take (i := 10) (v := _) rfl (by kernel_rfl) (by kernel_rfl) (by kernel_rfl) (fun _ _ _ h => h) (yieldsIf_load_ur (by rfl) _ rfl w.heap.size rfl u A c (fun w h => h.1)) (by assumption) ?_
          (try simp only [List.getElem_toArray, List.getElem_cons_zero, List.getElem_cons_succ, Act.put, List.setIfInBounds_toArray, List.set_cons_zero, List.set_cons_succ])
          refine wpAnyH_ready (rs := [11]) (by kernel_rfl) (by simp) ?_
          refine AllReadyH.cons rfl (fun K hK => ?_) AllReadyH.nil
          go_simp
          go_at_call 31
          with_reducible refine (ct.out _ (H.out.below hb6) (HD.out.below hb6)).mono ?_
          rintro _ w7 ⟨rfl, hbn⟩
          have hb7 := below_next hb6 hbn
          have hU7 := hU6.below hbn hU6.lt
          refine hK.out _ _ (boxU hU7) (fun hHeld => ?_)
          clear hK K hbn
          (try simp only [List.getElem_toArray, List.getElem_cons_zero, List.getElem_cons_succ, Act.put, List.setIfInBounds_toArray, List.set_cons_zero, List.set_cons_succ])
          first | (refine wpAnyH_take (i := 12) (v := _) rfl (by kernel_rfl) (by kernel_rfl) (by kernel_rfl) (fun _ _ _ h => h) (Or.inr ⟨?_, rfl⟩) (by assumption) ?_; rfl) | (refine wpAnyH_take (i := 12) (v := ?_) rfl (by kernel_rfl) (by kernel_rfl) (by kernel_rfl) (fun _ _ _ h => h) (Or.inl ⟨?_, ?_⟩) (by assumption) ?_; rotate_left; rfl; focus (intro w hSw; (try dsimp only at hSw); go_simp; all_goals (with_reducible rfl)))
          (try simp only [List.getElem_toArray, List.getElem_cons_zero, List.getElem_cons_succ, Act.put, List.setIfInBounds_toArray, List.set_cons_zero, List.set_cons_succ])
          first | (refine wpAnyH_take (i := 13) (v := _) rfl (by kernel_rfl) (by kernel_rfl) (by kernel_rfl) (fun _ _ _ h => h) (Or.inr ⟨?_, rfl⟩) (by assumption) ?_; rfl) | (refine wpAnyH_take (i := 13) (v := ?_) rfl (by kernel_rfl) (by kernel_rfl) (by kernel_rfl) (fun _ _ _ h => h) (Or.inl ⟨?_, ?_⟩) (by assumption) ?_; rotate_left; rfl; focus (intro w hSw; (try dsimp only at hSw); go_simp; all_goals (with_reducible rfl)))
          (try simp only [List.getElem_toArray, List.getElem_cons_zero, List.getElem_cons_succ, Act.put, List.setIfInBounds_toArray, List.set_cons_zero, List.set_cons_succ])
          first | (refine wpAnyH_take (i := 14) (v := _) rfl (by kernel_rfl) (by kernel_rfl) (by kernel_rfl) (fun _ _ _ h => h) (Or.inr ⟨?_, rfl⟩) (by assumption) ?_; rfl) | (refine wpAnyH_take (i := 14) (v := ?_) rfl (by kernel_rfl) (by kernel_rfl) (by kernel_rfl) (fun _ _ _ h => h) (Or.inl ⟨?_, ?_⟩) (by assumption) ?_; rotate_left; rfl; focus (intro w hSw; (try dsimp only at hSw); go_simp; all_goals (with_reducible rfl)))
          (try simp only [List.getElem_toArray, List.getElem_cons_zero, List.getElem_cons_succ, Act.put, List.setIfInBounds_toArray, List.set_cons_zero, List.set_cons_succ])
          first | (refine wpAnyH_take (i := 15) (v := _) rfl (by kernel_rfl) (by kernel_rfl) (by kernel_rfl) (fun _ _ _ h => h) (Or.inr ⟨?_, rfl⟩) (by assumption) ?_; rfl) | (refine wpAnyH_take (i := 15) (v := ?_) rfl (by kernel_rfl) (by kernel_rfl) (by kernel_rfl) (fun _ _ _ h => h) (Or.inl ⟨?_, ?_⟩) (by assumption) ?_; rotate_left; rfl; focus (intro w hSw; (try dsimp only at hSw); go_simp; all_goals (with_reducible rfl)))
          (try simp only [List.getElem_toArray, List.getElem_cons_zero, List.getElem_cons_succ, Act.put, List.setIfInBounds_toArray, List.set_cons_zero, List.set_cons_succ])
          first | (refine wpAnyH_take (i := 16) (v := _) rfl (by kernel_rfl) (by kernel_rfl) (by kernel_rfl) (fun _ _ _ h => h) (Or.inr ⟨?_, rfl⟩) (by assumption) ?_; rfl) | (refine wpAnyH_take (i := 16) (v := ?_) rfl (by kernel_rfl) (by kernel_rfl) (by kernel_rfl) (fun _ _ _ h => h) (Or.inl ⟨?_, ?_⟩) (by assumption) ?_; rotate_left; rfl; focus (intro w hSw; (try dsimp only at hSw); go_simp; all_goals (with_reducible rfl)))
          (try simp only [List.getElem_toArray, List.getElem_cons_zero, List.getElem_cons_succ, Act.put, List.setIfInBounds_toArray, List.set_cons_zero, List.set_cons_succ])
          refine wpAnyH_done (by kernel_rfl) ?_ _
          clear hHeld hS0
          go_wp2_with fail
          go_ret
          exact ⟨by rw [hv.out, ← hww.out]; rfl, hb7⟩
set_option maxHeartbeats 4000000 in
theorem ttarget_walk (u : Ur) (A : Option Addr) (c : Nat) (w : World) (h : UrAt w A c u) (hq : u.q.length ≤ 4000) (hd : DigOk w) :
    Calls Tryz.prog 13 #[.agg (u.arr A c)] w fun e w' => e = .returned (.string ⟨(targetE u).toArray⟩) ∧ Below w.heap.size w w' := by
  have HB := Lib.hid ((Below.refl w.heap.size w).alloc (Nat.le_refl _) (.cells (u.arr A c) 28))
  have hK0 := Blk.new w 28 (u.arr A c)
  have H := Lib.hid h
  have HD := Lib.hid hd
  clear hd
  have cm := Lib.hid (fun W h1 h2 => may_walk u A c W h1 h2 hq)
  have ct := Lib.hid (fun W h1 h2 => target_walk u A c W h1 hq h2)
  clear h
  cases hm : mayB u with
  | false =>
    have hv : Hid (targetE u = []) := by show _ = _; rw [targetE, hm]; rfl
    rw [hm] at cm
    clear hm
    go_enter Tryz.func13, Tryz.ntmps13
    go_wp2_with (refine wpList_load_ur rfl _ rfl w.heap.size rfl u A c hK0 ?_)
    refine (cm.out _ (H.out.below HB.out) (HD.out.below HB.out)).mono ?_
    rintro _ w2 ⟨rfl, hbn⟩
    have hb2 := below_next HB.out hbn
    have hk2 := Blk.below hK0 hbn hK0.lt
    clear hbn
    go_wp2_with fail
    go_ret
    exact ⟨by rw [hv.out]; rfl, hb2⟩
  | true =>
    have hv : Hid (targetE u = targetL u) := by show _ = _; rw [targetE, hm]; rfl
    rw [hm] at cm
    clear hm
    go_enter Tryz.func13, Tryz.ntmps13
    go_wp2_with (refine wpList_load_ur rfl _ rfl w.heap.size rfl u A c hK0 ?_)
    refine (cm.out _ (H.out.below HB.out) (HD.out.below HB.out)).mono ?_
    rintro _ w2 ⟨rfl, hbn⟩
    have hb2 := below_next HB.out hbn
    have hk2 := Blk.below hK0 hbn hK0.lt
    clear hbn
    go_wp2_with (refine wpList_load_ur rfl _ rfl w.heap.size rfl u A c hk2 ?_)
    refine (ct.out _ (H.out.below hb2) (HD.out.below hb2)).mono ?_
    rintro _ w3 ⟨rfl, hbn⟩
    have hb3 := below_next hb2 hbn
    go_wp2_with fail
    go_ret
    exact ⟨by rw [hv.out]; rfl, hb3⟩
set_option maxHeartbeats 8000000 in
theorem printu_walk (u : Ur) (A : Option Addr) (c : Nat) (w : World) (h : UrAt w A c u) (hq : u.q.length ≤ 4000) (hd : DigOk w) :
    Calls Tryz.prog 12 #[.agg (u.arr A c)] w fun e w' => e = .returned (.string ⟨(printE u).toArray⟩) ∧ Below w.heap.size w w' := by
  have hhl := h.2.1
  have hpl := h.2.2.1
  have hsl := h.2.2.2
  have htl := target_len u
  have HB := Lib.hid ((Below.refl w.heap.size w).alloc (Nat.le_refl _) (.cells (u.arr A c) 28))
  have hK0 := Blk.new w 28 (u.arr A c)
  have H := Lib.hid h
  have HD := Lib.hid hd
  clear hd
  have cm := Lib.hid (fun W h1 h2 => may_walk u A c W h1 h2 hq)
  have ct := Lib.hid (fun W h1 h2 => target_walk u A c W h1 hq h2)
  clear h
  cases hm : mayB u with
  | false =>
    have hv : Hid (printE u = []) := by show _ = _; rw [printE, hm]; rfl
    rw [hm] at cm
    clear hm htl
    go_enter Tryz.func12, Tryz.ntmps12
    go_wp2_with (refine wpList_load_ur rfl _ rfl w.heap.size rfl u A c hK0 ?_)
    refine (cm.out _ (H.out.below HB.out) (HD.out.below HB.out)).mono ?_
    rintro _ w2 ⟨rfl, hbn⟩
    have hb2 := below_next HB.out hbn
    have hk2 := Blk.below hK0 hbn hK0.lt
    clear hbn
    go_wp2_with fail
    go_ret
    exact ⟨by rw [hv.out]; rfl, hb2⟩
  | true =>
    have hv : Hid ((⟨#[104, 116, 116, 112, 115, 58, 47, 47]⟩ : ByteArray) ++ ⟨u.h.toArray⟩ ++ ⟨(targetL u).toArray⟩ = ⟨(printE u).toArray⟩) := by
      show _ = _
      rw [printE, hm, if_pos rfl]
      apply str_eq
      simp [ByteArray.data_append, uriL, schemeL]
    rw [hm] at cm
    have hk1 : ¬ 9223372036854775807 < 8 + u.h.length := by omega
    have hk2x : ¬ 9223372036854775807 < 8 + u.h.length + (targetL u).length := by omega
    clear hm htl
    go_enter Tryz.func12, Tryz.ntmps12
    go_wp2_with (refine wpList_load_ur rfl _ rfl w.heap.size rfl u A c hK0 ?_)
    refine (cm.out _ (H.out.below HB.out) (HD.out.below HB.out)).mono ?_
    rintro _ w2 ⟨rfl, hbn⟩
    have hb2 := below_next HB.out hbn
    have hk2 := Blk.below hK0 hbn hK0.lt
    clear hbn
    go_wp2_with fail
    have hS0 := boxU hk2.drew
    refine wp_region_held_drew (S := fun W => Blk W w.heap.size 28 (u.arr A c) ∧ W.cell? ⟨w.heap.size, 0, none⟩ = some (.string ⟨u.h.toArray⟩) ∧ W.cell? ⟨w.heap.size, 1, none⟩ = some (.string ⟨u.p.toArray⟩) ∧ W.cell? ⟨w.heap.size, 2, none⟩ = some (.slice A u.q.length c)) (by kernel_rfl) hS0 (fun hHeld => ?_)
    first | (refine wpAnyH_take (i := 0) (v := _) rfl (by kernel_rfl) (by kernel_rfl) (by kernel_rfl) (fun _ _ _ h => h) (Or.inr ⟨?_, rfl⟩) (by assumption) ?_; rfl) | (refine wpAnyH_take (i := 0) (v := ?_) rfl (by kernel_rfl) (by kernel_rfl) (by kernel_rfl) (fun _ _ _ h => h) (Or.inl ⟨?_, ?_⟩) (by assumption) ?_; rotate_left; rfl; focus (intro w hSw; (try dsimp only at hSw); go_simp; all_goals (with_reducible rfl)))
    (try simp only [List.getElem_toArray, List.getElem_cons_zero, List.getElem_cons_succ, Act.put, List.setIfInBounds_toArray, List.set_cons_zero, List.set_cons_succ])
    first | (refine wpAnyH_take (i := 1) (v := _) rfl (by kernel_rfl) (by kernel_rfl) (by kernel_rfl) (fun _ _ _ h => h) (Or.inr ⟨?_, rfl⟩) (by assumption) ?_; rfl) | (refine wpAnyH_take (i := 1) (v := ?_) rfl (by kernel_rfl) (by kernel_rfl) (by kernel_rfl) (fun _ _ _ h => h) (Or.inl ⟨?_, ?_⟩) (by assumption) ?_; rotate_left; rfl; focus (intro w hSw; (try dsimp only at hSw); go_simp; all_goals (with_reducible rfl)))
    (try simp only [List.getElem_toArray, List.getElem_cons_zero, List.getElem_cons_succ, Act.put, List.setIfInBounds_toArray, List.set_cons_zero, List.set_cons_succ])
    first | (refine wpAnyH_take (i := 2) (v := _) rfl (by kernel_rfl) (by kernel_rfl) (by kernel_rfl) (fun _ _ _ h => h) (Or.inr ⟨?_, rfl⟩) (by assumption) ?_; rfl) | (refine wpAnyH_take (i := 2) (v := ?_) rfl (by kernel_rfl) (by kernel_rfl) (by kernel_rfl) (fun _ _ _ h => h) (Or.inl ⟨?_, ?_⟩) (by assumption) ?_; rotate_left; rfl; focus (intro w hSw; (try dsimp only at hSw); go_simp; all_goals (with_reducible rfl)))
    (try simp only [List.getElem_toArray, List.getElem_cons_zero, List.getElem_cons_succ, Act.put, List.setIfInBounds_toArray, List.set_cons_zero, List.set_cons_succ])
    refine wpAnyH_take (i := 3) (v := _) rfl (by kernel_rfl) (by kernel_rfl) (by kernel_rfl) (fun _ _ _ h => h) (yieldsIf_load_ur (by rfl) _ rfl w.heap.size rfl u A c (fun w h => h.1)) (by assumption) ?_
    (try simp only [List.getElem_toArray, List.getElem_cons_zero, List.getElem_cons_succ, Act.put, List.setIfInBounds_toArray, List.set_cons_zero, List.set_cons_succ])
    refine wpAnyH_ready (rs := [4]) (by kernel_rfl) (by simp) ?_
    refine AllReadyH.cons rfl (fun K hK => ?_) AllReadyH.nil
    go_simp
    go_at_call 31
    with_reducible refine (ct.out _ (H.out.below hb2.drew) (HD.out.below hb2.drew)).mono ?_
    rintro _ w6 ⟨rfl, hbn⟩
    have hb6 := below_next hb2.drew hbn
    have hk6 := Blk.below hS0.1 hbn hS0.1.lt
    refine hK.out _ _ (boxU hk6) (fun hHeld => ?_)
    clear hK K hbn
    (try simp only [List.getElem_toArray, List.getElem_cons_zero, List.getElem_cons_succ, Act.put, List.setIfInBounds_toArray, List.set_cons_zero, List.set_cons_succ])
    first | (refine wpAnyH_take (i := 5) (v := _) rfl (by kernel_rfl) (by kernel_rfl) (by kernel_rfl) (fun _ _ _ h => h) (Or.inr ⟨?_, rfl⟩) (by assumption) ?_; rfl) | (refine wpAnyH_take (i := 5) (v := ?_) rfl (by kernel_rfl) (by kernel_rfl) (by kernel_rfl) (fun _ _ _ h => h) (Or.inl ⟨?_, ?_⟩) (by assumption) ?_; rotate_left; rfl; focus (intro w hSw; (try dsimp only at hSw); go_simp; all_goals (with_reducible rfl)))
    (try simp only [List.getElem_toArray, List.getElem_cons_zero, List.getElem_cons_succ, Act.put, List.setIfInBounds_toArray, List.set_cons_zero, List.set_cons_succ])
    first | (refine wpAnyH_take (i := 6) (v := _) rfl (by kernel_rfl) (by kernel_rfl) (by kernel_rfl) (fun _ _ _ h => h) (Or.inr ⟨?_, rfl⟩) (by assumption) ?_; rfl) | (refine wpAnyH_take (i := 6) (v := ?_) rfl (by kernel_rfl) (by kernel_rfl) (by kernel_rfl) (fun _ _ _ h => h) (Or.inl ⟨?_, ?_⟩) (by assumption) ?_; rotate_left; rfl; focus (intro w hSw; (try dsimp only at hSw); go_simp; all_goals (with_reducible rfl)))
    (try simp only [List.getElem_toArray, List.getElem_cons_zero, List.getElem_cons_succ, Act.put, List.setIfInBounds_toArray, List.set_cons_zero, List.set_cons_succ])
    refine wpAnyH_done (by kernel_rfl) ?_ _
    clear hHeld hS0
    go_wp2_with fail
    go_ret
    exact ⟨by rw [← hv.out]; rfl, hb6⟩
end Go.Proofs.YtolfcpbcccbmmaaGreatDoor

import Derived.Test.YtekpdkjkkglcjaaDi
set_option linter.unusedVariables false
set_option linter.unusedSimpArgs false
set_option maxRecDepth 20000
namespace Go.Proofs.Ytekpdkjkkglcjaa
open Go.RowKit
def kidsN (k : Int) : Int := if k = 1 then 0 else if k = 2 then 0 else if k = 3 then 1 else if k = 4 then 1 else if k = 5 then 2 else if k = 6 then 2 else if k = 7 then 2 else -1
set_option maxHeartbeats 1000000 in
theorem kids_count (k : Int) (w : World) : Calls Try.prog 69 #[.int .i64 k] w fun e w' => e = .returned (.int .i64 (kidsN k)) ∧ w = w' := by
  by_cases h : k = 1 ∨ k = 2 ∨ k = 3 ∨ k = 4 ∨ k = 5 ∨ k = 6 ∨ k = 7
  · rcases h with rfl | rfl | rfl | rfl | rfl | rfl | rfl
    all_goals
      go_enter Try.func69, Try.ntmps69
      go_wp2_with fail
      go_ret
      exact ⟨rfl, rfl⟩
  · have hv : Hid (kidsN k = -1) := by
      show _ = _
      unfold kidsN
      repeat (rw [if_neg (by omega)])
    have y1 : (k == 1) = false := by rw [beq_eq_false_iff_ne]; omega
    have y2 : (k == 2) = false := by rw [beq_eq_false_iff_ne]; omega
    have y3 : (k == 3) = false := by rw [beq_eq_false_iff_ne]; omega
    have y4 : (k == 4) = false := by rw [beq_eq_false_iff_ne]; omega
    have y5 : (k == 5) = false := by rw [beq_eq_false_iff_ne]; omega
    have y6 : (k == 6) = false := by rw [beq_eq_false_iff_ne]; omega
    have y7 : (k == 7) = false := by rw [beq_eq_false_iff_ne]; omega
    clear h
    go_enter Try.func69, Try.ntmps69
    go_wp2_with fail
    go_ret
    exact ⟨by rw [hv.out]; rfl, rfl⟩
theorem n_walk (n : Int) (w : World) : Calls Try.prog 20 #[.int .i64 n] w fun e w' => e = .returned (.agg #[.int .i64 2, .int .i64 n, .string ⟨#[]⟩, .slice none 0 0]) ∧ Below w.heap.size w w' := by
  have hb := (Below.refl w.heap.size w).alloc (Nat.le_refl _) (.cells #[.int .i64 0, .int .i64 0, .string ⟨#[]⟩, .slice none 0 0] 35)
  have hbr := Blk.new w 35 #[.int .i64 0, .int .i64 0, .string ⟨#[]⟩, .slice none 0 0]
  go_enter Try.func20, Try.ntmps20
  go_wp2_with (refine wpList_store_blk rfl 35 _ _ rfl w.heap.size _ #[.int .i64 2, .int .i64 n, .string ⟨#[]⟩, .slice none 0 0] _ rfl rfl hbr rfl term_size (ones4 _ _ _ _ _ _) ?_)
  refine bodyPost_ret (results_cell_row Try.results20 _ _ w.heap.size _ _ _ _ rfl hbr.setRow Try.underlying35 rfl (by kernel_rfl)) rfl ⟨rfl, below_setRow hb (Nat.le_refl _) _⟩
def rightB (kd nm : Int) (s : ByteArray) (m : Nat) : Bool :=
  ((m : Int) == kidsN kd) && (s.toList.isEmpty || ((kd == 1) && decide ((s.size : Int) ≤ 1024))) && ((nm == 0) || ((kd == 2) && decide (0 < nm) && decide (nm ≤ 1073741824)))
set_option maxHeartbeats 8000000 in
theorem right_walk (kd nm : Int) (s : ByteArray) (A : Option Addr) (m c : Nat) (w : World) :
    Calls Try.prog 62 #[.agg #[.int .i64 kd, .int .i64 nm, .string s, .slice A m c]] w fun e w' => e = .returned (.bool (rightB kd nm s m)) ∧ Below w.heap.size w w' := by
  have ck := Lib.hid (kids_count kd)
  obtain ⟨kn, hkn⟩ : ∃ kn, kidsN kd = kn := ⟨_, rfl⟩
  rw [hkn] at ck
  have hv : Hid (rightB kd nm s m = (((m : Int) == kn) && (s.toList.isEmpty || ((kd == 1) && decide ((s.size : Int) ≤ 1024))) && ((nm == 0) || ((kd == 2) && decide (0 < nm) && decide (nm ≤ 1073741824))))) := by show _ = _; rw [rightB, hkn]
  clear hkn
  have hb := (Below.refl w.heap.size w).alloc (Nat.le_refl _) (.cells #[.int .i64 kd, .int .i64 nm, .string s, .slice A m c] 35)
  have hbx := Blk.new w 35 #[.int .i64 kd, .int .i64 nm, .string s, .slice A m c]
  have c0 : ∀ q, ((w.alloc (.cells #[.int .i64 kd, .int .i64 nm, .string s, .slice A m c] 35)).drewN q).cell? ⟨w.heap.size, 0, none⟩ = some (.int .i64 kd) := fun q => hbx.cell 0
  have c1 : ∀ q, ((w.alloc (.cells #[.int .i64 kd, .int .i64 nm, .string s, .slice A m c] 35)).drewN q).cell? ⟨w.heap.size, 1, none⟩ = some (.int .i64 nm) := fun q => hbx.cell 1
  have c2 : ∀ q, ((w.alloc (.cells #[.int .i64 kd, .int .i64 nm, .string s, .slice A m c] 35)).drewN q).cell? ⟨w.heap.size, 2, none⟩ = some (.string s) := fun q => hbx.cell 2
  have c3 : ∀ q, ((w.alloc (.cells #[.int .i64 kd, .int .i64 nm, .string s, .slice A m c] 35)).drewN q).cell? ⟨w.heap.size, 3, none⟩ = some (.slice A m c) := fun q => hbx.cell 3
  have hb2 := Lib.hid (fun q => below_drewN hb q)
  clear hbx hb
  obtain ⟨b1, e1⟩ : ∃ b, ((m : Int) == kn) = b := ⟨_, rfl⟩
  obtain ⟨b2, e2⟩ : ∃ b, s.toList.isEmpty = b := ⟨_, rfl⟩
  obtain ⟨b3, e3⟩ : ∃ b, (kd == 1) = b := ⟨_, rfl⟩
  obtain ⟨b4, e4⟩ : ∃ b, decide ((s.size : Int) ≤ 1024) = b := ⟨_, rfl⟩
  obtain ⟨b5, e5⟩ : ∃ b, (nm == 0) = b := ⟨_, rfl⟩
  obtain ⟨b6, e6⟩ : ∃ b, (kd == 2) = b := ⟨_, rfl⟩
  obtain ⟨b7, e7⟩ : ∃ b, decide (0 < nm) = b := ⟨_, rfl⟩
  obtain ⟨b8, e8⟩ : ∃ b, decide (nm ≤ 1073741824) = b := ⟨_, rfl⟩
  rw [e1, e2, e3, e4, e5, e6, e7, e8] at hv
  cases b1
  · skip
    go_enter Try.func62, Try.ntmps62
    go_wp2_with fail
    go_quiet (fail)
    go_wp2_with fail
    go_quiet ((go_at_call 69; refine (ck.out _).mono ?_; rintro e w9 ⟨rfl, rfl⟩; exact ⟨rfl, _, rfl⟩))
    go_wp2_with fail
    go_ret
    exact ⟨by rw [hv.out]; first | rfl | (simp; done), below_drewN (hb2.out _) _⟩
  · cases b2
    · cases b3
      · skip
        go_enter Try.func62, Try.ntmps62
        go_wp2_with fail
        go_quiet (fail)
        go_wp2_with fail
        go_quiet ((go_at_call 69; refine (ck.out _).mono ?_; rintro e w9 ⟨rfl, rfl⟩; exact ⟨rfl, _, rfl⟩))
        go_wp2_with fail
        go_ret
        exact ⟨by rw [hv.out]; first | rfl | (simp; done), below_drewN (hb2.out _) _⟩
      · cases b4
        · skip
          go_enter Try.func62, Try.ntmps62
          go_wp2_with fail
          go_quiet (fail)
          go_wp2_with fail
          go_quiet ((go_at_call 69; refine (ck.out _).mono ?_; rintro e w9 ⟨rfl, rfl⟩; exact ⟨rfl, _, rfl⟩))
          go_wp2_with fail
          go_ret
          exact ⟨by rw [hv.out]; first | rfl | (simp; done), below_drewN (hb2.out _) _⟩
        · skip
          cases b5
          · cases b6
            · skip
              go_enter Try.func62, Try.ntmps62
              go_wp2_with fail
              go_quiet (fail)
              go_wp2_with fail
              go_quiet ((go_at_call 69; refine (ck.out _).mono ?_; rintro e w9 ⟨rfl, rfl⟩; exact ⟨rfl, _, rfl⟩))
              go_wp2_with fail
              go_ret
              exact ⟨by rw [hv.out]; first | rfl | (simp; done), below_drewN (hb2.out _) _⟩
            · cases b7
              · skip
                go_enter Try.func62, Try.ntmps62
                go_wp2_with fail
                go_quiet (fail)
                go_wp2_with fail
                go_quiet ((go_at_call 69; refine (ck.out _).mono ?_; rintro e w9 ⟨rfl, rfl⟩; exact ⟨rfl, _, rfl⟩))
                go_wp2_with fail
                go_ret
                exact ⟨by rw [hv.out]; first | rfl | (simp; done), below_drewN (hb2.out _) _⟩
              · cases b8
                · skip
                  go_enter Try.func62, Try.ntmps62
                  go_wp2_with fail
                  go_quiet (fail)
                  go_wp2_with fail
                  go_quiet ((go_at_call 69; refine (ck.out _).mono ?_; rintro e w9 ⟨rfl, rfl⟩; exact ⟨rfl, _, rfl⟩))
                  go_wp2_with fail
                  go_ret
                  exact ⟨by rw [hv.out]; first | rfl | (simp; done), below_drewN (hb2.out _) _⟩
                · skip
                  go_enter Try.func62, Try.ntmps62
                  go_wp2_with fail
                  go_quiet (fail)
                  go_wp2_with fail
                  go_quiet ((go_at_call 69; refine (ck.out _).mono ?_; rintro e w9 ⟨rfl, rfl⟩; exact ⟨rfl, _, rfl⟩))
                  go_wp2_with fail
                  go_ret
                  exact ⟨by rw [hv.out]; first | rfl | (simp; done), below_drewN (hb2.out _) _⟩
          · skip
            go_enter Try.func62, Try.ntmps62
            go_wp2_with fail
            go_quiet (fail)
            go_wp2_with fail
            go_quiet ((go_at_call 69; refine (ck.out _).mono ?_; rintro e w9 ⟨rfl, rfl⟩; exact ⟨rfl, _, rfl⟩))
            go_wp2_with fail
            go_ret
            exact ⟨by rw [hv.out]; first | rfl | (simp; done), below_drewN (hb2.out _) _⟩
    · skip
      cases b5
      · cases b6
        · skip
          go_enter Try.func62, Try.ntmps62
          go_wp2_with fail
          go_quiet (fail)
          go_wp2_with fail
          go_quiet ((go_at_call 69; refine (ck.out _).mono ?_; rintro e w9 ⟨rfl, rfl⟩; exact ⟨rfl, _, rfl⟩))
          go_wp2_with fail
          go_ret
          exact ⟨by rw [hv.out]; first | rfl | (simp; done), below_drewN (hb2.out _) _⟩
        · cases b7
          · skip
            go_enter Try.func62, Try.ntmps62
            go_wp2_with fail
            go_quiet (fail)
            go_wp2_with fail
            go_quiet ((go_at_call 69; refine (ck.out _).mono ?_; rintro e w9 ⟨rfl, rfl⟩; exact ⟨rfl, _, rfl⟩))
            go_wp2_with fail
            go_ret
            exact ⟨by rw [hv.out]; first | rfl | (simp; done), below_drewN (hb2.out _) _⟩
          · cases b8
            · skip
              go_enter Try.func62, Try.ntmps62
              go_wp2_with fail
              go_quiet (fail)
              go_wp2_with fail
              go_quiet ((go_at_call 69; refine (ck.out _).mono ?_; rintro e w9 ⟨rfl, rfl⟩; exact ⟨rfl, _, rfl⟩))
              go_wp2_with fail
              go_ret
              exact ⟨by rw [hv.out]; first | rfl | (simp; done), below_drewN (hb2.out _) _⟩
            · skip
              go_enter Try.func62, Try.ntmps62
              go_wp2_with fail
              go_quiet (fail)
              go_wp2_with fail
              go_quiet ((go_at_call 69; refine (ck.out _).mono ?_; rintro e w9 ⟨rfl, rfl⟩; exact ⟨rfl, _, rfl⟩))
              go_wp2_with fail
              go_ret
              exact ⟨by rw [hv.out]; first | rfl | (simp; done), below_drewN (hb2.out _) _⟩
      · skip
        go_enter Try.func62, Try.ntmps62
        go_wp2_with fail
        go_quiet (fail)
        go_wp2_with fail
        go_quiet ((go_at_call 69; refine (ck.out _).mono ?_; rintro e w9 ⟨rfl, rfl⟩; exact ⟨rfl, _, rfl⟩))
        go_wp2_with fail
        go_ret
        exact ⟨by rw [hv.out]; first | rfl | (simp; done), below_drewN (hb2.out _) _⟩
end Go.Proofs.Ytekpdkjkkglcjaa

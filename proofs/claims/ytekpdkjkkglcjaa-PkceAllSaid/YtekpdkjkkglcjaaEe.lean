/- ref1's May: the same as the program's. No condition of its own. -/
import Derived.Test.YtekpdkjkkglcjaaDn
import Derived.Test.YtekpdkjkkglcjaaDv
import Derived.Test.YtekpdkjkkglcjaaDg
set_option linter.unusedVariables false
set_option linter.unusedSimpArgs false
set_option maxRecDepth 20000
namespace Go.Proofs.Ytekpdkjkkglcjaa
open Go.RowKit
set_option maxHeartbeats 1000000 in
theorem rkids_count (k : Int) (w : World) : Calls Try.prog 51 #[.int .i64 k] w fun e w' => e = .returned (.int .i64 (kidsN k)) ∧ w = w' := by
  by_cases h : k = 1 ∨ k = 2 ∨ k = 3 ∨ k = 4 ∨ k = 5 ∨ k = 6 ∨ k = 7
  · rcases h with rfl | rfl | rfl | rfl | rfl | rfl | rfl
    all_goals
      go_enter Try.func51, Try.ntmps51
      go_wp2_with fail
      go_ret
      exact ⟨rfl, rfl⟩
  · have hv : Hid (kidsN k = -1) := by
      show _ = _
      unfold kidsN
      repeat (rw [if_neg (by omega)])
    have y1 : (k == 1) = false := by rw [beq_eq_false_iff_ne]; omega
    have y2 : (k == 2) = false := by rw [beq_eq_false_iff_ne]; omega
    have y3 : (k == 3) = false := by rw [beq_eq_false_iff_ne]; omega
    have y4 : (k == 4) = false := by rw [beq_eq_false_iff_ne]; omega
    have y5 : (k == 5) = false := by rw [beq_eq_false_iff_ne]; omega
    have y6 : (k == 6) = false := by rw [beq_eq_false_iff_ne]; omega
    have y7 : (k == 7) = false := by rw [beq_eq_false_iff_ne]; omega
    clear h
    go_enter Try.func51, Try.ntmps51
    go_wp2_with fail
    go_ret
    exact ⟨by rw [hv.out]; rfl, rfl⟩
/-- what ref1's walk answers -/
def leftI : Bool × Nat → Int
  | (true, c) => 64 - (c : Int)
  | (false, _) => -1
theorem right_false {kind n : Int} {s : ByteArray} {m : Nat} (h : rightB kind n s m = false) :
    kidsN kind ≠ (m : Int) ∨ (kidsN kind = (m : Int) ∧ kind ≠ 1 ∧ s.toList.isEmpty = false) ∨ (kidsN kind = (m : Int) ∧ (kind = 1 ∨ kind ≠ 1 ∧ s.toList.isEmpty = true) ∧ ((1024 < (s.size : Int)) ∨ ((s.size : Int) ≤ 1024 ∧ kind ≠ 2 ∧ n ≠ 0) ∨ ((s.size : Int) ≤ 1024 ∧ kind = 2 ∧ n < 0) ∨ ((s.size : Int) ≤ 1024 ∧ kind = 2 ∧ 0 ≤ n ∧ 1073741824 < n))) := by
  rw [rightB] at h
  by_cases h1 : kidsN kind = (m : Int)
  · rw [show ((m : Int) == kidsN kind) = true by rw [h1]; simp, Bool.true_and] at h
    right
    by_cases h2 : kind = 1
    · right
      refine ⟨h1, .inl h2, ?_⟩
      by_cases h3 : 1024 < (s.size : Int)
      · exact .inl h3
      · rw [show (s.toList.isEmpty || ((kind == 1) && decide ((s.size : Int) ≤ 1024))) = true by rw [h2, decide_eq_true (by omega)]; simp, Bool.true_and] at h
        simp only [Bool.or_eq_false_iff, beq_eq_false_iff_ne] at h
        exact .inr (.inl ⟨by omega, by omega, h.1⟩)
    · cases he : s.toList.isEmpty
      · exact .inl ⟨h1, h2, rfl⟩
      · right
        refine ⟨h1, .inr ⟨h2, rfl⟩, ?_⟩
        rw [he, Bool.true_or, Bool.true_and, Bool.or_eq_false_iff, beq_eq_false_iff_ne] at h
        have hs : s.size = 0 := by
          have e1 : s.toList = [] := by simpa using he
          rw [Lib.size_eq, ← ByteArray.toList_eq, e1]; rfl
        right
        by_cases h4 : kind = 2
        · right
          rw [h4] at h
          have h5 := h.2
          simp only [Bool.and_eq_false_iff, decide_eq_false_iff_not, beq_self_eq_true, Bool.true_eq_false, false_or] at h5
          by_cases h6 : n < 0
          · exact .inl ⟨by omega, h4, h6⟩
          · exact .inr ⟨by omega, h4, by omega, by omega⟩
        · exact .inl ⟨by omega, h4, h.1⟩
  · exact .inl h1
mutual
theorem mayT_le65 : ∀ (t : Tm) (deep : Int) (c : Nat), c ≤ 64 → (mayT t deep c).2 ≤ 65
  | .mk kind n s kids, deep, c, hc => by
    rw [mayT]
    split
    · simp; omega
    · rename_i h
      exact mayK_le65 kids (deep + 1) (c + 1) (by omega)
theorem mayK_le65 : ∀ (ks : List Tm) (deep : Int) (c : Nat), c ≤ 64 → (mayK ks deep c).2 ≤ 65
  | [], deep, c, hc => by rw [mayK]; simp; omega
  | k :: ks, deep, c, hc => by
    rw [mayK]
    have h1 := mayT_le65 k deep c hc
    cases hM : mayT k deep c with
    | mk b c1 =>
      rw [hM] at h1
      cases b
      · exact h1
      · exact mayK_le65 ks deep c1 (mayT_le k deep c c1 hM)
end
def WalkOk (t : Tm) : Prop := ∀ (cs : List Value) (deep : Int) (c : Nat) (w : World), TmV w 0 t cs → 1 ≤ deep → deep ≤ 17 → c ≤ 64 →
    Calls Try.prog 41 #[.agg cs.toArray, .int .i64 deep, .int .i64 (64 - (c : Int))] w fun e w' => e = .returned (.int .i64 (leftI (mayT t deep c))) ∧ Below w.heap.size w w'
set_option maxHeartbeats 4000000 in
theorem walk_node (kind n : Int) (s : ByteArray) (kids : List Tm) (hkids : ∀ k ∈ kids, WalkOk k) : WalkOk (.mk kind n s kids) := by
  intro cs deep c w ht hd1 hd17 hc
  rw [TmV] at ht
  obtain ⟨A, cp, vs, rfl, h1, h2, h3, _, h5⟩ := ht
  show Calls _ _ #[.agg #[.int .i64 kind, .int .i64 n, .string s, .slice A kids.length cp], .int .i64 deep, .int .i64 (64 - (c : Int))] _ _
  have hb1 := (Below.refl w.heap.size w).alloc (Nat.le_refl _) (.cells #[.int .i64 kind, .int .i64 n, .string s, .slice A kids.length cp] 35)
  have hbx := Blk.new w 35 #[.int .i64 kind, .int .i64 n, .string s, .slice A kids.length cp]
  have c0 : ∀ q, ((w.alloc (.cells #[.int .i64 kind, .int .i64 n, .string s, .slice A kids.length cp] 35)).drewN q).cell? ⟨w.heap.size, 0, none⟩ = some (.int .i64 kind) := fun q => hbx.cell 0
  have c1 : ∀ q, ((w.alloc (.cells #[.int .i64 kind, .int .i64 n, .string s, .slice A kids.length cp] 35)).drewN q).cell? ⟨w.heap.size, 1, none⟩ = some (.int .i64 n) := fun q => hbx.cell 1
  have c2 : ∀ q, ((w.alloc (.cells #[.int .i64 kind, .int .i64 n, .string s, .slice A kids.length cp] 35)).drewN q).cell? ⟨w.heap.size, 2, none⟩ = some (.string s) := fun q => hbx.cell 2
  have c3 : ∀ q, ((w.alloc (.cells #[.int .i64 kind, .int .i64 n, .string s, .slice A kids.length cp] 35)).drewN q).cell? ⟨w.heap.size, 3, none⟩ = some (.slice A kids.length cp) := fun q => hbx.cell 3
  rw [mayT]
  generalize hR : ite (64 < c + 1 ∨ 16 < deep ∨ rightB kind n s kids.length = false) _ _ = R
  have HRR := Lib.hid hR
  have ck := Lib.hid (rkids_count kind)
  obtain ⟨kn, hkn⟩ : ∃ kn, kidsN kind = kn := ⟨_, rfl⟩
  rw [hkn] at ck
  have HKN := Lib.hid hkn
  have hbw : Hid (∀ q, Below w.heap.size w ((w.alloc (.cells #[.int .i64 kind, .int .i64 n, .string s, .slice A kids.length cp] 35)).drewN q)) := fun q => below_drewN hb1 q
  have hrf : ∀ P : Prop, True := fun _ => trivial
  clear hR hkn hb1 hrf
  by_cases h64 : c = 64
  · have hv : Hid (R = (false, c + 1)) := by show _ = _; rw [← HRR.out, if_pos (.inl (by omega))]
    have e1 : decide (64 - (c : Int) < 1) = true := by simp; omega
    go_enter Try.func41, Try.ntmps41
    go_wp2_with fail
    go_quiet ((go_at_call 51; refine (ck.out _).mono ?_; rintro e w9 ⟨rfl, rfl⟩; exact ⟨rfl, _, rfl⟩))
    go_wp2_with fail
    go_ret
    exact ⟨by rw [hv.out]; rfl, hbw.out _⟩
  have e1 : decide (64 - (c : Int) < 1) = false := by simp; omega
  by_cases h17 : deep = 17
  · have hv : Hid (R = (false, c + 1)) := by show _ = _; rw [← HRR.out, if_pos (.inr (.inl (by omega)))]
    have e2 : decide (16 < deep) = true := by simp; omega
    go_enter Try.func41, Try.ntmps41
    go_wp2_with fail
    go_quiet ((go_at_call 51; refine (ck.out _).mono ?_; rintro e w9 ⟨rfl, rfl⟩; exact ⟨rfl, _, rfl⟩))
    go_wp2_with fail
    go_ret
    exact ⟨by rw [hv.out]; rfl, hbw.out _⟩
  have e2 : decide (16 < deep) = false := by simp; omega
  cases hB : rightB kind n s kids.length
  · have hv : Hid (R = (false, c + 1)) := by show _ = _; rw [← HRR.out, if_pos (.inr (.inr hB))]
    have hff := right_false hB
    rw [HKN.out] at hff
    clear hB HRR
    rcases hff with h | ⟨h, h'⟩ | ⟨h, h'⟩
    · have e3 : (kn != (kids.length : Int)) = true := by rw [bne_iff_ne]; exact h
      go_enter Try.func41, Try.ntmps41
      go_wp2_with fail
      go_quiet ((go_at_call 51; refine (ck.out _).mono ?_; rintro e w9 ⟨rfl, rfl⟩; exact ⟨rfl, _, rfl⟩))
      go_wp2_with fail
      go_ret
      exact ⟨by rw [hv.out]; rfl, hbw.out _⟩
    · have e3 : (kn != (kids.length : Int)) = false := by rw [h]; simp
      have e4 : (kind != 1) = true := by rw [bne_iff_ne]; exact h'.1
      have e5 : s.toList.isEmpty = false := h'.2
      clear h h'
      go_enter Try.func41, Try.ntmps41
      go_wp2_with fail
      go_quiet ((go_at_call 51; refine (ck.out _).mono ?_; rintro e w9 ⟨rfl, rfl⟩; exact ⟨rfl, _, rfl⟩))
      go_wp2_with fail
      go_ret
      exact ⟨by rw [hv.out]; rfl, hbw.out _⟩
    · have e3 : (kn != (kids.length : Int)) = false := by rw [h]; simp
      have hkk : ((kind != 1) = false) ∨ ((kind != 1) = true ∧ s.toList.isEmpty = true) := by
        rcases h'.1 with h | h
        · left; rw [h]; rfl
        · exact .inr ⟨by rw [bne_iff_ne]; exact h.1, h.2⟩
      have hx := h'.2
      clear h h'
      rcases hx with h | ⟨h, h', h2⟩ | ⟨h, h', h2⟩ | ⟨h, h', h2, h3⟩
      · have e6 : decide (1024 < (s.size : Int)) = true := by simp; omega
        clear h
        rcases hkk with e4 | ⟨e4, e5⟩
        all_goals
          go_enter Try.func41, Try.ntmps41
          go_wp2_with fail
          go_quiet ((go_at_call 51; refine (ck.out _).mono ?_; rintro e w9 ⟨rfl, rfl⟩; exact ⟨rfl, _, rfl⟩))
          go_wp2_with fail
          go_ret
          exact ⟨by rw [hv.out]; rfl, hbw.out _⟩
      · have e6 : decide (1024 < (s.size : Int)) = false := by simp; omega
        have e7 : (kind != 2) = true := by rw [bne_iff_ne]; exact h'
        have e8 : (n != 0) = true := by rw [bne_iff_ne]; exact h2
        clear h h' h2
        rcases hkk with e4 | ⟨e4, e5⟩
        all_goals
          go_enter Try.func41, Try.ntmps41
          go_wp2_with fail
          go_quiet ((go_at_call 51; refine (ck.out _).mono ?_; rintro e w9 ⟨rfl, rfl⟩; exact ⟨rfl, _, rfl⟩))
          go_wp2_with fail
          go_ret
          exact ⟨by rw [hv.out]; rfl, hbw.out _⟩
      · have e6 : decide (1024 < (s.size : Int)) = false := by simp; omega
        have e7 : (kind != 2) = false := by rw [h']; rfl
        have e9 : decide (n < 0) = true := by simp; omega
        clear h h' h2
        rcases hkk with e4 | ⟨e4, e5⟩
        all_goals
          go_enter Try.func41, Try.ntmps41
          go_wp2_with fail
          go_quiet ((go_at_call 51; refine (ck.out _).mono ?_; rintro e w9 ⟨rfl, rfl⟩; exact ⟨rfl, _, rfl⟩))
          go_wp2_with fail
          go_ret
          exact ⟨by rw [hv.out]; rfl, hbw.out _⟩
      · have e6 : decide (1024 < (s.size : Int)) = false := by simp; omega
        have e7 : (kind != 2) = false := by rw [h']; rfl
        have e9 : decide (n < 0) = false := by simp; omega
        have e10 : decide (1073741824 < n) = true := by simp; omega
        clear h h' h2 h3
        rcases hkk with e4 | ⟨e4, e5⟩
        all_goals
          go_enter Try.func41, Try.ntmps41
          go_wp2_with fail
          go_quiet ((go_at_call 51; refine (ck.out _).mono ?_; rintro e w9 ⟨rfl, rfl⟩; exact ⟨rfl, _, rfl⟩))
          go_wp2_with fail
          go_ret
          exact ⟨by rw [hv.out]; rfl, hbw.out _⟩
  · have hv : Hid (R = mayK kids (deep + 1) (c + 1)) := by show _ = _; rw [← HRR.out, if_neg]; rw [hB]; simp; omega
    have hc1 : c + 1 ≤ 64 := by omega
    have hnl : (if True then 0 else 0) = 0 := rfl
    have hkm : kn = (kids.length : Int) := by
      rw [← HKN.out]
      rw [rightB, Bool.and_eq_true, Bool.and_eq_true] at hB
      have := hB.1.1
      simp at this
      exact this.symm
    have e3 : (kn != (kids.length : Int)) = false := by rw [hkm]; simp
    have hvar : ((kind != 1) = false ∧ (kind != 2) = true ∧ (n != 0) = false ∧ decide (n < 0) = false ∧ decide (1073741824 < n) = false ∧ decide (1024 < (s.size : Int)) = false) ∨
        ((kind != 1) = true ∧ s.toList.isEmpty = true ∧ (kind != 2) = false ∧ decide (n < 0) = false ∧ decide (1073741824 < n) = false ∧ decide (1024 < (s.size : Int)) = false) ∨
        ((kind != 1) = true ∧ s.toList.isEmpty = true ∧ (kind != 2) = true ∧ (n != 0) = false ∧ decide (n < 0) = false ∧ decide (1073741824 < n) = false ∧ decide (1024 < (s.size : Int)) = false) := by
      have e0 : (⟨#[]⟩ : ByteArray).toList.isEmpty = true := by rw [str_nil rfl]; rfl
      have es : (⟨#[]⟩ : ByteArray).size = 0 := rfl
      rcases right_cases hB with ⟨rfl, rfl, hm, hs⟩ | ⟨rfl, rfl, hm, hn0, hn1⟩ | ⟨hkd, rfl, rfl, hm⟩ | ⟨hkd, rfl, rfl, hm⟩
      · left; simp; omega
      · right; left
        refine ⟨rfl, e0, rfl, ?_, ?_, ?_⟩ <;> simp <;> omega
      · right; right
        refine ⟨by rw [bne_iff_ne]; omega, e0, by rw [bne_iff_ne]; omega, rfl, rfl, rfl, ?_⟩
        rw [es]; rfl
      · right; right
        refine ⟨by rw [bne_iff_ne]; omega, e0, by rw [bne_iff_ne]; omega, rfl, rfl, rfl, ?_⟩
        rw [es]; rfl
    have HBX := Lib.hid hbx
    have HC3 := Lib.hid c3
    have hwd : True → wrap64 (deep + 1) = deep + 1 := fun _ => by unfold wrap64; omega
    have hd16 : deep ≤ 16 := by omega
    clear hB HRR hkm hnl HKN h64 h17 hbx
    rcases hvar with ⟨e4, e7, e8, e9, e10, e6⟩ | ⟨e4, e5, e7, e9, e10, e6⟩ | ⟨e4, e5, e7, e8, e9, e10, e6⟩
    all_goals
      go_enter Try.func41, Try.ntmps41
      go_wp2_with fail
      go_quiet ((go_at_call 51; refine (ck.out _).mono ?_; rintro e w9 ⟨rfl, rfl⟩; exact ⟨rfl, _, rfl⟩))
      have HX1 : Hid (Blk ((w.alloc (.cells #[.int .i64 kind, .int .i64 n, .string s, .slice A kids.length cp] 35)).drewN nq) w.heap.size 35 #[.int .i64 kind, .int .i64 n, .string s, .slice A kids.length cp]) := HBX.out
      have HB1 := Lib.hid (hbw.out nq)
      clear c0 c1 c2 c3 hbw
      go_wp2_with fail
      go_loopw [2, 7] (fun lv iv wr => ∃ (i : Nat) (r : Bool × Nat), i ≤ kids.length ∧ iv = .int .i64 i ∧ lv = .int .i64 (leftI r) ∧ Hid (mayK kids (deep + 1) (c + 1) = if r.1 = true then mayK (kids.drop i) (deep + 1) r.2 else r) ∧ r.2 ≤ 65 ∧ (r.1 = true → r.2 ≤ 64) ∧ Hid (Below w.heap.size w wr) ∧ Hid (Blk wr w.heap.size 35 #[.int .i64 kind, .int .i64 n, .string s, .slice A kids.length cp])) (fun _ iv _ => kids.length - (intOf iv).toNat)
      case atStart => exact ⟨0, (true, c + 1), by omega, rfl, by simp [leftI]; omega, rfl, by simp; omega, fun _ => by simp; omega, HB1, HX1⟩
      case round =>
        clear HB1 HX1
        obtain ⟨i, ⟨b, c'⟩, hik, rfl, rfl, hmk, hc65, hc', hb, hx⟩ := hrel
        have c33 : wr.cell? ⟨w.heap.size, 3, none⟩ = some (.slice A kids.length cp) := hx.out.cell 3
        cases b
        · have hvv : Hid (R = (false, c')) := by show _ = _; rw [hv.out, hmk.out]; rfl
          have hlf : leftI (false, c') = -1 := rfl
          rw [hlf]
          by_cases hlt : i < kids.length
          all_goals
            go_wp2_with fail
            go_ret
            exact ⟨by rw [hvv.out]; rfl, hb.out⟩
        · have hlf : leftI (true, c') = 64 - (c' : Int) := rfl
          have hc64 : c' ≤ 64 := hc' rfl
          rw [hlf]
          by_cases hlt : i < kids.length
          · obtain ⟨k, hki⟩ : ∃ k, kids[i]? = some k := ⟨kids[i], List.getElem?_eq_getElem hlt⟩
            obtain ⟨ad, v, rfl, htk, hcv⟩ := kid_at h5 h3 hki
            obtain ⟨ad', e', hadl, _⟩ := h3.2 (by omega)
            injection e' with e'
            subst e'
            obtain ⟨kd, nm, s2, A2, m2, c2, rfl⟩ := htk.form
            have hcw : ∀ j u, [Value.int .i64 kd, .int .i64 nm, .string s2, .slice A2 m2 c2][j]? = some u → wr.cell? ((ad.add (i * 4)).add j) = some u := fun j u hu => (hb.out.cell (by rw [block_of_add, block_of_add]; exact hadl)).trans (hcv j u hu)
            have cp2 := Lib.hid (hkids k (List.mem_of_getElem? hki) _ (deep + 1) c' wr (htk.below hb.out) (by omega) (by omega) hc64)
            have hdr : Hid (mayK kids (deep + 1) (c + 1) = if (mayT k (deep + 1) c').1 = true then mayK (kids.drop (i + 1)) (deep + 1) (mayT k (deep + 1) c').2 else mayT k (deep + 1) c') := by
              show _ = _
              obtain ⟨hi9, e9⟩ := List.getElem?_eq_some_iff.1 hki
              rw [hmk.out, if_pos rfl, List.drop_eq_getElem_cons hi9, e9, mayK]
              cases hM : mayT k (deep + 1) c' with
              | mk b c1 => cases b <;> rfl
            have hle := mayT_le65 k (deep + 1) c' hc64
            have hle2 : (mayT k (deep + 1) c').1 = true → (mayT k (deep + 1) c').2 ≤ 64 := fun h => mayT_le k (deep + 1) c' _ (Prod.ext h rfl)
            generalize mayT k (deep + 1) c' = r at cp2 hdr hle hle2
            clear hki htk hcv hmk hc65 hc'
            go_wp2_with (refine wpList_load_at rfl 35 _ rfl (ad.add (i * 4)) rfl [.int .i64 kd, .int .i64 nm, .string s2, .slice A2 m2 c2] _ hcw Try.underlying35 rfl term_size ?_)
            refine cp2.out.mono ?_
            rintro _ w5 ⟨rfl, hb5⟩
            have HB5 := Lib.hid (below_next hb.out hb5)
            have HX5 := Lib.hid (hx.out.below hb5 hx.out.lt)
            clear hb5 cp2 hcw c33
            go_wp2_with fail
            exact ⟨⟨i + 1, r, by omega, by go_num, rfl, hdr, hle, hle2, HB5, HX5⟩, by simp [intOf]; omega⟩
          · obtain rfl : i = kids.length := by omega
            have hvv : Hid (R = (true, c')) := by show _ = _; rw [hv.out, hmk.out, if_pos rfl, List.drop_length, mayK]
            go_wp2_with fail
            go_ret
            exact ⟨by rw [hvv.out]; rfl, hb.out⟩
mutual
theorem walk_all : ∀ t : Tm, WalkOk t
  | .mk kind n s kids => walk_node kind n s kids (walk_each kids)
theorem walk_each : ∀ ks : List Tm, ∀ k ∈ ks, WalkOk k
  | [], k, h => by simp at h
  | x :: ks, k, h => by
    have h1 := walk_all x
    have h2 := walk_each ks
    rcases List.mem_cons.1 h with e | h
    · rw [e]; exact h1
    · exact h2 k h
end
theorem rmay_walk (t : Tm) (kind n : Int) (s : ByteArray) (A : Option Addr) (m c : Nat) (w : World) (ht : TmV w 0 t [.int .i64 kind, .int .i64 n, .string s, .slice A m c]) :
    Calls Try.prog 32 #[.agg #[.int .i64 kind, .int .i64 n, .string s, .slice A m c]] w fun e w' => e = .returned (.bool (mayB t)) ∧ Below w.heap.size w w' := by
  have hb1 := (Below.refl w.heap.size w).alloc (Nat.le_refl _) (.cells #[.int .i64 kind, .int .i64 n, .string s, .slice A m c] 35)
  have hbx := Blk.new w 35 #[.int .i64 kind, .int .i64 n, .string s, .slice A m c]
  have cw := Lib.hid (walk_all t _ 1 0 _ (ht.below hb1) (by omega) (by omega) (by omega))
  have hv : Hid (mayB t = (mayT t 1 0).1) := rfl
  have hle := fun h => mayT_le t 1 0 _ (Prod.ext (h : (mayT t 1 0).1 = true) rfl)
  generalize mayT t 1 0 = r at cw hv hle
  obtain ⟨b, c1⟩ := r
  have HB1 := Lib.hid hb1
  clear hb1
  go_enter Try.func32, Try.ntmps32
  go_wp2_with (refine wpList_load_at rfl 35 _ rfl ⟨w.heap.size, 0, none⟩ rfl [.int .i64 kind, .int .i64 n, .string s, .slice A m c] _ (blk_cells hbx) Try.underlying35 rfl term_size ?_)
  refine cw.out.mono ?_
  rintro _ w5 ⟨rfl, hb5⟩
  have HB5 := Lib.hid (below_next HB1.out hb5)
  clear hb5 cw
  cases b
  · have e : leftI (false, c1) = -1 := rfl
    rw [e]
    go_wp2_with fail
    go_ret
    exact ⟨by rw [hv.out]; rfl, HB5.out⟩
  · have e : leftI (true, c1) = 64 - (c1 : Int) := rfl
    have hc1 : c1 ≤ 64 := hle rfl
    have hd : decide ((c1 : Int) ≤ 64) = true := by simp; omega
    rw [e]
    go_wp2_with fail
    go_ret
    exact ⟨by rw [hv.out]; first | rfl | (rw [hd]; rfl), HB5.out⟩
end Go.Proofs.Ytekpdkjkkglcjaa

/- ClientMay: of any clients whether they may be. Condition: the table of digits is laid. -/
import Derived.Test.YtekbdfnbnpmclaaGreatDoorCi
import Derived.Test.YtekbdfnbnpmclaaGreatDoorCh
import Derived.Test.YtekbdfnbnpmclaaGreatDoorCo
set_option linter.unusedVariables false
set_option linter.unusedSimpArgs false
set_option maxRecDepth 20000
namespace Go.Proofs.YtekbdfnbnpmclaaGreatDoor
open Go.RowKit Pc
theorem own_built (w : World) (t : TypeId) (us : List Value) (h : us.length ≤ maxLen) : (w.alloc (.cells us.toArray t)).ownsRow w.heap.size t 1 (.slice (some ⟨w.heap.size, 0, none⟩) us.length us.length) us.length us :=
  ⟨by omega, .inr ⟨w.heap.size, us.length, us.toArray, rfl, Nat.le_refl _, Blk.new w t us.toArray, Nat.le_refl _, h, by simp, by simp⟩⟩
def redM17 : List UInt8 := [104, 116, 116, 112, 115, 58, 47, 47, 99, 47, 99, 98]
/-- clients of one sign each -/
def ManyC (M : List Cl) : Prop := ∀ j f, M[j]? = some f → f.id = [UInt8.ofNat (97 + j)] ∧ f.sec = 0 ∧ f.red = [redM17] ∧ f.sc = [97]
theorem many_lead : leadB redM17 = true := by decide +kernel
theorem many_word : ∀ j : Fin 10, S16.wordB [UInt8.ofNat (97 + j.val)] = true := by decide +kernel
theorem many_one {f : Cl} {j : Nat} (hj : j < 10) (h : f.id = [UInt8.ofNat (97 + j)] ∧ f.sec = 0 ∧ f.red = [redM17] ∧ f.sc = [97]) : oneB f = true := by
  obtain ⟨h1, h2, h3, h4⟩ := h
  have h5 : redB [redM17] = true := by rw [redB, redsB, redsB, many_lead]; rfl
  rw [oneB, h1, h2, h3, h4, many_word ⟨j, hj⟩, h5, kn_scope]
  rfl
theorem many_may {M : List Cl} (h : ManyC M) (hl : M.length ≤ 10) : clMayB M = decide (M.length ≤ 8) := by
  have key : ∀ i, i ≤ M.length → maysB (M.take (M.length - i)) (M.drop (M.length - i)) = true := by
    intro i
    induction i with
    | zero => intro _; rw [Nat.sub_zero]; exact maysB_end M
    | succ i ih =>
      intro hi
      have hlt : M.length - (i + 1) < M.length := by omega
      have hk := List.getElem?_eq_getElem hlt
      rw [maysB_at M _ _ hk, show M.length - (i + 1) + 1 = M.length - i by omega, ih (by omega), many_one (by omega) (h _ _ hk)]
      have : (M.take (M.length - (i + 1))).any (isId M[M.length - (i + 1)].id) = false := by
        rw [List.any_eq_false]
        intro x hx
        obtain ⟨j, hj⟩ := List.mem_iff_getElem?.1 hx
        rw [List.getElem?_take] at hj
        split at hj
        · rename_i hjk
          rw [isId, (h j x hj).1, (h _ _ hk).1]
          simp only [decide_eq_true_eq]
          intro e
          injection e with e _
          have e2 := congrArg UInt8.toNat e
          rw [UInt8.toNat_ofNat', UInt8.toNat_ofNat'] at e2
          omega
        · simp at hj
      rw [this]
      rfl
  have h0 := key M.length (Nat.le_refl _)
  rw [Nat.sub_self] at h0
  rw [clMayB, show maysB [] M = true from h0, Bool.and_true]
theorem many_short {M : List Cl} (h : ManyC M) (hl : M.length ≤ 10) : ClsShort M := by
  refine ⟨by omega, fun f hf => ?_⟩
  obtain ⟨j, hj⟩ := List.mem_iff_getElem?.1 hf
  obtain ⟨h1, h2, h3, h4⟩ := h j f hj
  exact ⟨⟨by rw [h3]; show 1 ≤ 5000; omega, fun p hp => by rw [h3, List.mem_singleton] at hp; rw [hp]; show 12 ≤ 10000; omega⟩, by rw [h1]; show 1 ≤ 10000; omega, by rw [h4]; show 1 ≤ 10000; omega⟩
theorem many_snoc {M : List Cl} (h : ManyC M) {f : Cl} (hf : f.id = [UInt8.ofNat (97 + M.length)] ∧ f.sec = 0 ∧ f.red = [redM17] ∧ f.sc = [97]) : ManyC (M ++ [f]) := by
  intro j g hj
  rcases Nat.lt_or_ge j M.length with h1 | h1
  · rw [List.getElem?_append_left h1] at hj; exact h j g hj
  · rw [List.getElem?_append_right h1] at hj
    have h2 := (List.getElem?_eq_some_iff.1 hj).1
    simp at h2
    have h3 : j = M.length := by omega
    subst h3
    rw [Nat.sub_self] at hj
    injection hj with e
    rw [← e]; exact hf
set_option maxHeartbeats 8000000 in
theorem clientMay_law (raw : List Cl) (A0 : Option Addr) (c0 : Nat) (zs : List Int) (A1 : Option Addr) (c1 : Nat) (n : Int) (w : World) (h0 : ClsAt w A0 c0 raw) (h1 : IntsIn w A1 c1 zs) (hn : -9223372036854775808 ≤ n ∧ n ≤ 9223372036854775807) (hd : DigOk w) :
    Calls Tryz.prog 3 #[.slice A0 raw.length c0, .slice A1 zs.length c1, .int .i64 n] w fun e w' => e = .returned (.bool true) ∧ Below w.heap.size w w' := by
  obtain ⟨i0, hi, hz0, hz1, hz2⟩ := infoS4 info_cl
  have HD := Lib.hid hd
  have HC := Lib.hid h0
  have HI := Lib.hid h1
  clear hd h0 h1
  go_enter Tryz.func3, Tryz.ntmps3
  go_wp2_with fail
  refine (known17_walk w HD.out).mono ?_
  rintro _ w1 ⟨rfl, hb1⟩
  have HB1 := Lib.hid hb1
  clear hb1
  go_wp2_with fail
  refine (few_walk raw A0 c0 w1 (HC.out.below HB1.out)).mono ?_
  rintro _ w2 ⟨b, rfl, hsh, hbn⟩
  have HB2 := Lib.hid (below_next HB1.out hbn)
  have HSH := Lib.hid hsh
  clear hbn HB1 hsh
  cases b
  case false =>
    go_wp2_with fail
    go_ret
    exact ⟨rfl, HB2.out⟩
  have HRS := Lib.hid (HSH.out rfl)
  clear HSH
  go_wp2_with fail
  refine (clients_walk zs A1 c1 3 (by omega) w2 (HI.out.below HB2.out)).mono ?_
  rintro _ w3 ⟨cs, A3, c3, rfl, hl3, hoff3, hA3, hO3, hR3, hbn⟩
  have HB3 := Lib.hid (below_next HB2.out hbn)
  have HA3 := Lib.hid hA3
  have hcap := hA3.1
  have HSC : Hid (ClsShort cs) := ⟨by omega, fun f hf => (hoff3 f hf).short⟩
  clear hbn hA3 hO3 hR3 hoff3 HB2 HI
  go_wp2_with fail
  go_loopw [8] (fun iv wr => ∃ i : Nat, i ≤ cs.length ∧ iv = .int .i64 i ∧ Hid (Below w.heap.size w wr) ∧ Hid (ClsAt wr A3 c3 cs)) (fun iv _ => cs.length - (intOf iv).toNat)
  case atStart => exact ⟨0, by omega, rfl, HB3, HA3⟩
  case round =>
    clear HB3 HA3
    obtain ⟨i, hi2, rfl, HB, HA⟩ := hrel
    by_cases hlt : i < cs.length
    · obtain ⟨ad, rfl⟩ : ∃ ad, A3 = some ad := by obtain ⟨ad, h, _⟩ := HA.out.2.1.2 (by omega); exact ⟨ad, h⟩
      have hcc : i < c3 := by omega
      have hc1 : (i : Int) + 1 ≤ (c3 : Int) := by omega
      have hc2 : (0 : Int) ≤ (i : Int) + 1 := by omega
      have hwi : IntKind.i64.wrap ((i : Int) + 1) = (i : Int) + 1 := by rw [IntKind.wrap_i64]; omega
      have hwt : ((i : Int) + 1).toNat = i + 1 := by omega
      have hci : ¬ c3 = i := by omega
      have hii : i + 1 - i = 1 := by omega
      go_wp2_with fail
      refine wp_region_held_drew (S := fun W => True) (by kernel_rfl) trivial (fun hHeld => ?_)
      first | (refine wpAnyH_take (i := 0) (v := _) rfl (by kernel_rfl) (by kernel_rfl) (by kernel_rfl) (fun _ _ _ h => h) (Or.inr ⟨?_, rfl⟩) (by assumption) ?_; rfl) | (refine wpAnyH_take (i := 0) (v := ?_) rfl (by kernel_rfl) (by kernel_rfl) (by kernel_rfl) (fun _ _ _ h => h) (Or.inl ⟨?_, ?_⟩) (by assumption) ?_; rotate_left; rfl; focus (intro w hSw; (try dsimp only at hSw); go_simp; all_goals (with_reducible rfl)))
      (try simp only [List.getElem_toArray, List.getElem_cons_zero, List.getElem_cons_succ, Act.put, List.setIfInBounds_toArray, List.set_cons_zero, List.set_cons_succ])
      first | (refine wpAnyH_take (i := 1) (v := _) rfl (by kernel_rfl) (by kernel_rfl) (by kernel_rfl) (fun _ _ _ h => h) (Or.inr ⟨?_, rfl⟩) (by assumption) ?_; rfl) | (refine wpAnyH_take (i := 1) (v := ?_) rfl (by kernel_rfl) (by kernel_rfl) (by kernel_rfl) (fun _ _ _ h => h) (Or.inl ⟨?_, ?_⟩) (by assumption) ?_; rotate_left; rfl; focus (intro w hSw; (try dsimp only at hSw); go_simp; all_goals (with_reducible rfl)))
      (try simp only [List.getElem_toArray, List.getElem_cons_zero, List.getElem_cons_succ, Act.put, List.setIfInBounds_toArray, List.set_cons_zero, List.set_cons_succ])
      first | (refine wpAnyH_take (i := 2) (v := _) rfl (by kernel_rfl) (by kernel_rfl) (by kernel_rfl) (fun _ _ _ h => h) (Or.inr ⟨?_, rfl⟩) (by assumption) ?_; rfl) | (refine wpAnyH_take (i := 2) (v := ?_) rfl (by kernel_rfl) (by kernel_rfl) (by kernel_rfl) (fun _ _ _ h => h) (Or.inl ⟨?_, ?_⟩) (by assumption) ?_; rotate_left; rfl; focus (intro w hSw; (try dsimp only at hSw); go_simp; all_goals (with_reducible rfl)))
      (try simp only [List.getElem_toArray, List.getElem_cons_zero, List.getElem_cons_succ, Act.put, List.setIfInBounds_toArray, List.set_cons_zero, List.set_cons_succ])
      first | (refine wpAnyH_take (i := 3) (v := _) rfl (by kernel_rfl) (by kernel_rfl) (by kernel_rfl) (fun _ _ _ h => h) (Or.inr ⟨?_, rfl⟩) (by assumption) ?_; rfl) | (refine wpAnyH_take (i := 3) (v := ?_) rfl (by kernel_rfl) (by kernel_rfl) (by kernel_rfl) (fun _ _ _ h => h) (Or.inl ⟨?_, ?_⟩) (by assumption) ?_; rotate_left; rfl; focus (intro w hSw; (try dsimp only at hSw); go_simp; all_goals (with_reducible rfl)))
      (try simp only [List.getElem_toArray, List.getElem_cons_zero, List.getElem_cons_succ, Act.put, List.setIfInBounds_toArray, List.set_cons_zero, List.set_cons_succ])
      first | (refine wpAnyH_take (i := 4) (v := _) rfl (by kernel_rfl) (by kernel_rfl) (by kernel_rfl) (fun _ _ _ h => h) (Or.inr ⟨?_, rfl⟩) (by assumption) ?_; rfl) | (refine wpAnyH_take (i := 4) (v := ?_) rfl (by kernel_rfl) (by kernel_rfl) (by kernel_rfl) (fun _ _ _ h => h) (Or.inl ⟨?_, ?_⟩) (by assumption) ?_; rotate_left; rfl; focus (intro w hSw; (try dsimp only at hSw); go_simp; all_goals (with_reducible rfl)))
      (try simp only [List.getElem_toArray, List.getElem_cons_zero, List.getElem_cons_succ, Act.put, List.setIfInBounds_toArray, List.set_cons_zero, List.set_cons_succ])
      first | (refine wpAnyH_take (i := 6) (v := _) rfl (by kernel_rfl) (by kernel_rfl) (by kernel_rfl) (fun _ _ _ h => h) (Or.inr ⟨?_, rfl⟩) (by assumption) ?_; rfl) | (refine wpAnyH_take (i := 6) (v := ?_) rfl (by kernel_rfl) (by kernel_rfl) (by kernel_rfl) (fun _ _ _ h => h) (Or.inl ⟨?_, ?_⟩) (by assumption) ?_; rotate_left; rfl; focus (intro w hSw; (try dsimp only at hSw); go_simp; all_goals (with_reducible rfl)))
      (try simp only [List.getElem_toArray, List.getElem_cons_zero, List.getElem_cons_succ, Act.put, List.setIfInBounds_toArray, List.set_cons_zero, List.set_cons_succ])
      first | (refine wpAnyH_take (i := 7) (v := _) rfl (by kernel_rfl) (by kernel_rfl) (by kernel_rfl) (fun _ _ _ h => h) (Or.inr ⟨?_, rfl⟩) (by assumption) ?_; rfl) | (refine wpAnyH_take (i := 7) (v := ?_) rfl (by kernel_rfl) (by kernel_rfl) (by kernel_rfl) (fun _ _ _ h => h) (Or.inl ⟨?_, ?_⟩) (by assumption) ?_; rotate_left; rfl; focus (intro w hSw; (try dsimp only at hSw); go_simp; all_goals (with_reducible rfl)))
      (try simp only [List.getElem_toArray, List.getElem_cons_zero, List.getElem_cons_succ, Act.put, List.setIfInBounds_toArray, List.set_cons_zero, List.set_cons_succ])
      first | (refine wpAnyH_take (i := 8) (v := _) rfl (by kernel_rfl) (by kernel_rfl) (by kernel_rfl) (fun _ _ _ h => h) (Or.inr ⟨?_, rfl⟩) (by assumption) ?_; rfl) | (refine wpAnyH_take (i := 8) (v := ?_) rfl (by kernel_rfl) (by kernel_rfl) (by kernel_rfl) (fun _ _ _ h => h) (Or.inl ⟨?_, ?_⟩) (by assumption) ?_; rotate_left; rfl; focus (intro w hSw; (try dsimp only at hSw); go_simp; all_goals (with_reducible rfl)))
      (try simp only [List.getElem_toArray, List.getElem_cons_zero, List.getElem_cons_succ, Act.put, List.setIfInBounds_toArray, List.set_cons_zero, List.set_cons_succ])
      first | (refine wpAnyH_take (i := 9) (v := _) rfl (by kernel_rfl) (by kernel_rfl) (by kernel_rfl) (fun _ _ _ h => h) (Or.inr ⟨?_, rfl⟩) (by assumption) ?_; rfl) | (refine wpAnyH_take (i := 9) (v := ?_) rfl (by kernel_rfl) (by kernel_rfl) (by kernel_rfl) (fun _ _ _ h => h) (Or.inl ⟨?_, ?_⟩) (by assumption) ?_; rotate_left; rfl; focus (intro w hSw; (try dsimp only at hSw); go_simp; all_goals (with_reducible rfl)))
      (try simp only [List.getElem_toArray, List.getElem_cons_zero, List.getElem_cons_succ, Act.put, List.setIfInBounds_toArray, List.set_cons_zero, List.set_cons_succ])
      first | (refine wpAnyH_take (i := 10) (v := _) rfl (by kernel_rfl) (by kernel_rfl) (by kernel_rfl) (fun _ _ _ h => h) (Or.inr ⟨?_, rfl⟩) (by assumption) ?_; rfl) | (refine wpAnyH_take (i := 10) (v := ?_) rfl (by kernel_rfl) (by kernel_rfl) (by kernel_rfl) (fun _ _ _ h => h) (Or.inl ⟨?_, ?_⟩) (by assumption) ?_; rotate_left; rfl; focus (intro w hSw; (try dsimp only at hSw); go_simp; all_goals (with_reducible rfl)))
      (try simp only [List.getElem_toArray, List.getElem_cons_zero, List.getElem_cons_succ, Act.put, List.setIfInBounds_toArray, List.set_cons_zero, List.set_cons_succ])
      have hsub : ClsAt wr.drew (some (ad.add (i * 4))) (c3 - i) ((cs.drop i).take 1) := (show ClsAt wr.drew (some ad) c3 cs from HA.out.drewN 1).cut i 1 (by omega) (c3 - i) (by omega)
      have hsl : ((cs.drop i).take 1).length = 1 := by rw [List.length_take, List.length_drop]; omega
      have hss : ClsShort ((cs.drop i).take 1) := ⟨by omega, fun f hf => HSC.out.2 f (List.mem_of_mem_drop (List.mem_of_mem_take hf))⟩
      have cm1 := may_client _ _ _ _ hsub (HD.out.below (below_drewN HB.out 1)) hss
      have cm2 := fun W h => rmay_client ((cs.drop i).take 1) (some (ad.add (i * 4))) (c3 - i) W h hss
      rw [hsl] at cm1 cm2
      have HSB := Lib.hid hsub
      generalize (cs.drop i).take 1 = sub at cm1 cm2 HSB
      generalize clMayB sub = q at cm1 cm2
      have CM1 := Lib.hid cm1
      have CM2 := Lib.hid cm2
      clear hsub hsl hss cm1 cm2
      refine wpAnyH_ready (rs := [5]) (by kernel_rfl) (by simp) ?_
      refine AllReadyH.cons rfl (fun K hK => ?_) AllReadyH.nil
      go_simp
      go_at_call 7
      with_reducible refine CM1.out.mono ?_
      rintro _ w8 ⟨rfl, hbn⟩
      have HB8 := Lib.hid (below_next (w1 := wr.drew) (below_drewN HB.out 1) hbn)
      have HA8 := Lib.hid (ClsAt.below (w := wr.drew) (show ClsAt wr.drew (some ad) c3 cs from HA.out.drewN 1) hbn)
      have HS8 := Lib.hid (HSB.out.below hbn)
      refine hK.out _ _ trivial (fun hHeld => ?_)
      clear hK K hbn
      (try simp only [List.getElem_toArray, List.getElem_cons_zero, List.getElem_cons_succ, Act.put, List.setIfInBounds_toArray, List.set_cons_zero, List.set_cons_succ])
      refine wpAnyH_ready (rs := [11]) (by kernel_rfl) (by simp) ?_
      refine AllReadyH.cons rfl (fun K hK => ?_) AllReadyH.nil
      go_simp
      go_at_call 8
      with_reducible refine (CM2.out w8 HS8.out).mono ?_
      rintro _ w9 ⟨rfl, hbn⟩
      have HB9 := Lib.hid (below_next HB8.out hbn)
      have HA9 := Lib.hid (HA8.out.below hbn)
      refine hK.out _ _ trivial (fun hHeld => ?_)
      clear hK K hbn
      (try simp only [List.getElem_toArray, List.getElem_cons_zero, List.getElem_cons_succ, Act.put, List.setIfInBounds_toArray, List.set_cons_zero, List.set_cons_succ])
      first | (refine wpAnyH_take (i := 12) (v := _) rfl (by kernel_rfl) (by kernel_rfl) (by kernel_rfl) (fun _ _ _ h => h) (Or.inr ⟨?_, rfl⟩) (by assumption) ?_; rfl) | (refine wpAnyH_take (i := 12) (v := ?_) rfl (by kernel_rfl) (by kernel_rfl) (by kernel_rfl) (fun _ _ _ h => h) (Or.inl ⟨?_, ?_⟩) (by assumption) ?_; rotate_left; rfl; focus (intro w hSw; (try dsimp only at hSw); go_simp; all_goals (with_reducible rfl)))
      (try simp only [List.getElem_toArray, List.getElem_cons_zero, List.getElem_cons_succ, Act.put, List.setIfInBounds_toArray, List.set_cons_zero, List.set_cons_succ])
      refine wpAnyH_done (by kernel_rfl) ?_ _
      clear hHeld CM1 CM2 HB HA HB8 HA8 HS8 HSB
      go_wp2_with fail
      exact ⟨⟨i + 1, by omega, by go_num, HB9, HA9⟩, by simp [intOf]; omega⟩
    obtain rfl : i = cs.length := by omega
    obtain ⟨r, er⟩ : ∃ r : Nat, n % 5 = r := ⟨(n % 5).toNat, by have := Int.emod_nonneg n (show (5 : Int) ≠ 0 by omega); omega⟩
    have hr5 : r < 5 := by have := Int.emod_lt_of_pos n (show (0 : Int) < 5 by omega); omega
    have cw := Lib.hid (within17_walk n 5 wr (by omega) (by omega) hn)
    rw [er] at cw
    have HB9 := Lib.hid (Below.refl wr.heap.size wr)
    have HO9 := Lib.hid (World.ownsRow_nil wr wr.heap.size 31 4)
    have HR9 : Hid (RedsIn wr.heap.size wr []) := fun f hf => by cases hf
    clear er hlt hi2
    go_wp2_with fail
    refine cw.out.mono ?_
    rintro _ w4 ⟨rfl, rfl⟩
    clear cw
    go_upto_region 13 with fail
    generalize hw9 : wr = w9 at HB HA HB9 HO9 HR9 ⊢
    clear hw9
    go_wp2_with fail
    go_loopw [9, 11] (fun sv iv wq => ∃ (M : List Cl) (A9 : Option Addr) (c9 : Nat), M.length ≤ 6 + r ∧ iv = .int .i64 M.length ∧ sv = .slice A9 M.length c9 ∧ Hid (ManyC M) ∧ Hid (Below w9.heap.size w9 wq) ∧ Hid (wq.ownsRow w9.heap.size 31 4 (.slice A9 M.length c9) M.length (cCells M)) ∧ Hid (RedsIn w9.heap.size wq M)) (fun _ iv _ => 6 + r - (intOf iv).toNat)
    case atStart => exact ⟨[], none, 0, by simp, rfl, rfl, fun j f h => (by simp at h), HB9, HO9, HR9⟩
    case round =>
      clear HB9 HO9 HR9
      obtain ⟨M, A9, c9, hM, rfl, rfl, HM, HBq, HOq, HRq⟩ := hrel
      by_cases hj : M.length < 6 + r
      · have hu : Hid ((UInt8.ofNat (97 + M.length)).toNat = 97 + M.length) := by show _ = _; rw [UInt8.toNat_ofNat']; omega
        have hcv : (convert 28 9 (.slice (some ⟨wr.heap.size, 0, none⟩) 1 1)).run Tryz.prog (wr.alloc (.cells #[.int .u8 (97 + (M.length : Int))] 5)) = .ok (.string ⟨#[UInt8.ofNat (97 + M.length)]⟩) (wr.alloc (.cells #[.int .u8 (97 + (M.length : Int))] 5)) := by
          have hrow := reads_row wr 5 (Lib.byteCells [UInt8.ofNat (97 + M.length)])
          have hbc : Lib.byteCells [UInt8.ofNat (97 + M.length)] = [.int .u8 (97 + (M.length : Int))] := by simp only [Lib.byteCells, List.map_cons, List.map_nil, hu.out]; simp
          rw [hbc] at hrow
          exact reads_str (l := [UInt8.ofNat (97 + M.length)]) (by rw [hbc]; exact hrow) 28 9 5 Tryz.underlying28 Tryz.underlying5 Tryz.underlying9
        have hw8 : IntKind.u8.wrap (97 + (M.length : Int)) = 97 + (M.length : Int) := by
          unfold IntKind.wrap; simp [IntKind.bits, IntKind.signed]; omega
        obtain ⟨bt, hbt⟩ : ∃ bt, UInt8.ofNat (97 + M.length) = bt := ⟨_, rfl⟩
        rw [hbt] at hcv
        have HBT := Lib.hid hbt
        clear hbt hu
        obtain ⟨f, hf⟩ : ∃ f : Cl, f = Cl.mk [bt] 0 [redM17] [97] (some ⟨wr.heap.size + 1, 0, none⟩) 1 := ⟨_, rfl⟩
        have hfa : f.arr = #[.string ⟨#[bt]⟩, .int .i64 0, .slice (some ⟨wr.heap.size + 1, 0, none⟩) 1 1, .string ⟨#[97]⟩] := by rw [hf]; rfl
        have hfm : ManyC (M ++ [f]) := many_snoc HM.out (by rw [HBT.out, hf]; exact ⟨rfl, rfl, rfl, rfl⟩)
        have hs1 : (wr.alloc (.cells #[.int .u8 (97 + (M.length : Int))] 5)).heap.size = wr.heap.size + 1 := by simp
        have hs2 : ((wr.alloc (.cells #[.int .u8 (97 + (M.length : Int))] 5)).alloc (.cells #[.string ⟨#[104, 116, 116, 112, 115, 58, 47, 47, 99, 47, 99, 98]⟩] 9)).heap.size = wr.heap.size + 2 := by simp
        have hrd := blk_reads (us := f.cells) (Blk.new ((wr.alloc (.cells #[.int .u8 (97 + (M.length : Int))] 5)).alloc (.cells #[.string ⟨#[104, 116, 116, 112, 115, 58, 47, 47, 99, 47, 99, 98]⟩] 9)) 31 f.cells.toArray)
        rw [show f.cells.toArray = f.arr from rfl, hfa, hs2] at hrd
        have hor : ((wr.alloc (.cells #[.int .u8 (97 + (M.length : Int))] 5)).alloc (.cells #[.string ⟨#[104, 116, 116, 112, 115, 58, 47, 47, 99, 47, 99, 98]⟩] 9)).ownsRow (wr.heap.size + 1) 9 1 (.slice f.ra f.red.length f.rc) f.red.length (strVs f.red) := by
          have := own_built (wr.alloc (.cells #[.int .u8 (97 + (M.length : Int))] 5)) 9 [strV redM17] (by show 1 ≤ maxLen; unfold maxLen; omega)
          rw [hs1] at this
          rw [hf]
          exact this
        have hsw := HBq.out.size
        have HRD := Lib.hid hrd
        have HOR := Lib.hid (World.ownsRow.mono hor (show w9.heap.size ≤ wr.heap.size + 1 by omega))
        have HFM := Lib.hid hfm
        have HOq3 := Lib.hid (((HOq.out.alloc (.cells #[.int .u8 (97 + (M.length : Int))] 5)).alloc (.cells #[.string ⟨#[104, 116, 116, 112, 115, 58, 47, 47, 99, 47, 99, 98]⟩] 9)).alloc (.cells #[.string ⟨#[bt]⟩, .int .i64 0, .slice (some ⟨wr.heap.size + 1, 0, none⟩) 1 1, .string ⟨#[97]⟩] 31))
        have HBq3 := Lib.hid ((((HBq.out.alloc hsw (.cells #[.int .u8 (97 + (M.length : Int))] 5)).alloc (by simp; omega) (.cells #[.string ⟨#[104, 116, 116, 112, 115, 58, 47, 47, 99, 47, 99, 98]⟩] 9))).alloc (by simp; omega) (.cells #[.string ⟨#[bt]⟩, .int .i64 0, .slice (some ⟨wr.heap.size + 1, 0, none⟩) 1 1, .string ⟨#[97]⟩] 31))
        have HRq3 : Hid (RedsIn w9.heap.size (((wr.alloc (.cells #[.int .u8 (97 + (M.length : Int))] 5)).alloc (.cells #[.string ⟨#[104, 116, 116, 112, 115, 58, 47, 47, 99, 47, 99, 98]⟩] 9)).alloc (.cells #[.string ⟨#[bt]⟩, .int .i64 0, .slice (some ⟨wr.heap.size + 1, 0, none⟩) 1 1, .string ⟨#[97]⟩] 31)) (M ++ [f])) := by
          show RedsIn _ _ _
          intro x hx
          rcases List.mem_append.1 hx with h | h
          · exact ((((HRq.out x h).alloc (.cells #[.int .u8 (97 + (M.length : Int))] 5)).alloc (.cells #[.string ⟨#[104, 116, 116, 112, 115, 58, 47, 47, 99, 47, 99, 98]⟩] 9)).alloc (.cells #[.string ⟨#[bt]⟩, .int .i64 0, .slice (some ⟨wr.heap.size + 1, 0, none⟩) 1 1, .string ⟨#[97]⟩] 31))
          · rw [List.mem_singleton] at h; rw [h]; exact HOR.out.alloc (.cells #[.string ⟨#[bt]⟩, .int .i64 0, .slice (some ⟨wr.heap.size + 1, 0, none⟩) 1 1, .string ⟨#[97]⟩] 31)
        have hfc : ∀ u ∈ f.cells, u.oneCell' = true := fun u hu => cCells_ones [f] u (by simpa [cCells] using hu)
        have HFC := Lib.hid hfc
        have hl7 : (M ++ [f]).length = M.length + 1 := by rw [List.length_append, List.length_singleton]
        clear hs1 hs2 hrd hor hfm hfc HOq HRq HOR hf HBT
        go_wp2_with (at_builtin; go_loud (refine wpList_append_any (((wr.alloc (.cells #[.int .u8 (97 + (M.length : Int))] 5)).alloc (.cells #[.string ⟨#[104, 116, 116, 112, 115, 58, 47, 47, 99, 47, 99, 98]⟩] 9)).alloc (.cells #[.string ⟨#[bt]⟩, .int .i64 0, .slice (some ⟨wr.heap.size + 1, 0, none⟩) 1 1, .string ⟨#[97]⟩] 31)) rfl (.tmp 46) (.tmp 54) 22 rfl w9.heap.size 31 i0 (.agg clZ.arr) 4 64 Tryz.underlying22 hi hz0 hz1 hz2 rfl (by decide) (.slice A9 M.length c9) M.length (cCells M) rfl HOq3.out (wr.heap.size + 2 + 1) _ 1 1 f.cells rfl HRD.out HFC.out (by unfold maxLen; omega) (by omega) HBq3.out.size ?_); intro v' w6 hown6 hg6 hat6)
        have hown7 := cl_next (l' := M ++ [f]) hown6 rfl rfl
        obtain ⟨A7, c7, rfl, _, _⟩ := own_reads hown7 (Nat.le_refl _)
        have hOlt := HOq3.out.lt
        have HB7 := Lib.hid (HBq3.out.grown hg6 HBq3.out.size (fun r e => by have := hOlt r e; omega))
        have HR7 : Hid (RedsIn w9.heap.size w6 (M ++ [f])) := by
          show RedsIn _ _ _
          intro x hx
          exact (HRq3.out x hx).kept hg6 (own_own (HRq3.out x hx) HOq3.out (by decide))
        have HO7 := Lib.hid hown7
        clear hown6 hown7 hg6 hat6 hOlt HOq3 HBq3 HRq3 HRD HFC hcv hw8
        exact ⟨⟨M ++ [f], A7, c7, by omega, by go_num, by rw [hl7], HFM, HB7, HO7, HR7⟩, by simp [intOf]; omega⟩
      have hMl : M.length = 6 + r := by omega
      have hcM : ClsAt wr A9 c9 M := by
        obtain ⟨A', c', e, h⟩ := ClsAt.own HOq.out (fun f hf => strsAt_of (HRq.out f hf))
        injection e with e1 _ e2
        subst e1 e2
        exact h
      have hbw : Below w.heap.size w wr := HB.out.trans (HBq.out.mono HB.out.size)
      have HBw := Lib.hid hbw
      have HCM := Lib.hid hcM
      have HCR := Lib.hid (HC.out.below hbw)
      have HCC := Lib.hid (HA.out.below HBq.out)
      have hq : Hid (clMayB M = decide (M.length ≤ 8)) := many_may HM.out (by omega)
      have hqs : Hid (ClsShort M) := many_short HM.out (by omega)
      have c1 := Lib.hid (fun W h hd => may_client raw A0 c0 W h hd HRS.out)
      have c2 := Lib.hid (fun W h => rmay_client raw A0 c0 W h HRS.out)
      have c3' := Lib.hid (fun W h hd => may_client cs A3 c3 W h hd HSC.out)
      have c4 := Lib.hid (fun W h => rmay_client cs A3 c3 W h HSC.out)
      have c5 := Lib.hid (fun W h hd => may_client M A9 c9 W h hd hqs.out)
      rw [hq.out] at c5
      generalize clMayB raw = q1 at c1 c2
      generalize clMayB cs = q2 at c3' c4
      have hd9 : decide ((M.length : Int) < 6 + (r : Int)) = false := by simp; omega
      have hd9b : ¬ (M.length : Int) < 6 + (r : Int) := by omega
      have hd8 : decide ((6 : Int) + (r : Int) ≤ (8 : Int)) = decide (M.length ≤ 8) := by rw [decide_eq_decide]; omega
      have hd8b : decide ((r : Int) ≤ (2 : Int)) = decide (M.length ≤ 8) := by rw [decide_eq_decide]; omega
      have hd8c : decide (r ≤ 2) = decide (M.length ≤ 8) := by rw [decide_eq_decide]; omega
      generalize hq3 : decide (M.length ≤ 8) = q3 at c5 hd8 hd8b hd8c
      clear hMl
      clear hcM hbw HB HA HBq HOq HRq HM hq hqs hq3
      cases q1 <;> cases q2 <;> cases q3
      all_goals
        go_wp2_with fail
        refine (c1.out wr HCR.out (HD.out.below HBw.out)).mono ?_
        rintro _ wa ⟨rfl, hbn⟩
        have HBa := Lib.hid (below_next HBw.out hbn)
        have HRa := Lib.hid (HCR.out.below hbn)
        have HCa := Lib.hid (HCC.out.below hbn)
        have HMa := Lib.hid (HCM.out.below hbn)
        clear hbn
        go_wp2_with fail
        refine (c2.out wa HRa.out).mono ?_
        rintro _ wb ⟨rfl, hbn⟩
        have HBb := Lib.hid (below_next HBa.out hbn)
        have HCb := Lib.hid (HCa.out.below hbn)
        have HMb := Lib.hid (HMa.out.below hbn)
        clear hbn HBa HRa HCa HMa
        go_wp2_with fail
        refine (c3'.out wb HCb.out (HD.out.below HBb.out)).mono ?_
        rintro _ wc ⟨rfl, hbn⟩
        have HBc := Lib.hid (below_next HBb.out hbn)
        have HCc := Lib.hid (HCb.out.below hbn)
        have HMc := Lib.hid (HMb.out.below hbn)
        clear hbn HBb HCb HMb
        go_wp2_with fail
        refine (c4.out wc HCc.out).mono ?_
        rintro _ wd ⟨rfl, hbn⟩
        have HBd := Lib.hid (below_next HBc.out hbn)
        have HMd := Lib.hid (HMc.out.below hbn)
        clear hbn HBc HCc HMc
        go_wp2_with fail
        refine (c5.out wd HMd.out (HD.out.below HBd.out)).mono ?_
        rintro _ we ⟨rfl, hbn⟩
        have HBe := Lib.hid (below_next HBd.out hbn)
        clear hbn HBd HMd
        go_wp2_with fail
        go_ret
        exact ⟨rfl, HBe.out⟩
end Go.Proofs.YtekbdfnbnpmclaaGreatDoor

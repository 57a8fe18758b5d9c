import Derived.Test.YtnnblddloabbjaaYb
import Derived.Deep.DeepCutAuto
import Derived.Deep.CutRange
import Derived.BigGuard
set_option linter.unusedVariables false
namespace Go.Proofs.Ytnnblddloabbjaa
open Go.RowKit Tx
theorem plain_class : ∀ c : Fin 256, plainB c.val = (letterB c.val || (decide (48 ≤ c.val) && decide (c.val ≤ 57)) || c.val == 45 || c.val == 46 || c.val == 95 || c.val == 126) := by decide +kernel
theorem word_one (b : UInt8) : wordB [b] = plainB b.toNat := by simp [wordB]
theorem seen_one (b : UInt8) : (([b] : List UInt8).all fun b => seenB b.toNat) = seenB b.toNat := by simp
theorem token_one (b : UInt8) : isToken [b] = tokenB b.toNat := by simp [isToken]
theorem valid_one : ∀ c : Fin 256, validL [UInt8.ofNat c.val] = decide (c.val < 128) := by decide +kernel
theorem plain_token : ∀ c : Fin 256, plainB c.val = true → tokenB c.val = true ∧ seenB c.val = true ∧ c.val < 128 := by decide +kernel
theorem runes_small : ∀ (l : List UInt8), (∀ b ∈ l, b.toNat < 128) → runes l = l.map fun b => (b.toNat, 1)
  | [], _ => rfl
  | b :: l, h => by
    have h0 : bt (b :: l) 0 = b.toNat := rfl
    have hd : dc (b :: l) = (b.toNat, 1) := by rw [dc, h0, if_pos (h b (List.mem_cons_self ..))]
    rw [runes_cons _ (by simp), hd]
    simp only [List.drop_succ_cons, List.drop_zero, List.map_cons]
    rw [runes_small l (fun x hx => h x (List.mem_cons_of_mem _ hx))]
theorem word_all {l : List UInt8} (h : wordB l = true) : isToken l = true ∧ (l.all fun b => seenB b.toNat) = true ∧ validL l = true ∧ (runes l).length = l.length := by
  simp only [wordB, Bool.and_eq_true, decide_eq_true_eq, List.all_eq_true] at h
  obtain ⟨⟨h1, h2⟩, h3⟩ := h
  have hp : ∀ b ∈ l, tokenB b.toNat = true ∧ seenB b.toNat = true ∧ b.toNat < 128 := fun b hb => plain_token ⟨b.toNat, b.toNat_lt⟩ (h3 b hb)
  have hr := runes_small l (fun b hb => (hp b hb).2.2)
  refine ⟨?_, ?_, ?_, ?_⟩
  · simp only [isToken, Bool.and_eq_true, decide_eq_true_eq, List.all_eq_true]
    exact ⟨h1, fun b hb => (hp b hb).1⟩
  · rw [List.all_eq_true]; exact fun b hb => (hp b hb).2.1
  · rw [validL, hr, List.all_eq_true]
    intro x hx
    rw [List.mem_map] at hx
    obtain ⟨b, hb, rfl⟩ := hx
    have := (hp b hb).2.2
    simp; omega
  · rw [hr, List.length_map]
theorem fold_fold (l : List UInt8) : foldL (foldL l) = foldL l := by
  have h : ∀ c : Fin 256, foldB (foldB (UInt8.ofNat c.val)) = foldB (UInt8.ofNat c.val) := by decide +kernel
  rw [foldL, foldL, List.map_map]
  apply List.map_congr_left
  intro b _
  have := h ⟨b.toNat, b.toNat_lt⟩
  simpa using this
set_option maxHeartbeats 40000000 in
set_option maxRecDepth 100000 in
theorem textClasses_walk (c : Nat) (hc : c < 256) (A : Option Addr) (cap : Nat) (zs : List Int) (w : World) (hr : IntsIn w A cap zs) :
    Calls Try.prog 5 #[.int .u8 c, .slice A zs.length cap] w fun e w' => e = .returned (.bool true) ∧ Below w.heap.size w w' := by
  have HR := Lib.hid hr
  clear hr
  have hb := Below.refl w.heap.size w
  obtain ⟨b, hbe, hbt⟩ : ∃ b : UInt8, Hid (b = UInt8.ofNat c) ∧ Hid (b.toNat = c) := ⟨_, rfl, by show _ = _; simp; omega⟩
  have hpc := Lib.hid (plain_class ⟨c, hc⟩)
  go_enter Try.func5, Try.ntmps5
  go_wp2_with fail
  refine (known6_walk _).mono ?_
  rintro _ w1 ⟨rfl, hbn⟩
  replace hb := below_next hb hbn
  clear hbn
  have hrd : Reads (w1.alloc (.cells #[.int .u8 c] 5)) (w1.heap.size + 1) 1 (some ⟨w1.heap.size, 0, none⟩) 1 (Lib.byteCells [b]) := by
    rw [show Lib.byteCells [b] = [.int .u8 (c : Int)] by simp [Lib.byteCells, hbt.out]]
    exact reads_row w1 5 [.int .u8 c]
  have hst := fun c => reads_str (P := Try.prog) (c := c) hrd 33 9 5 Try.underlying33 Try.underlying5 Try.underlying9
  clear hrd
  go_upto_region 4 with fail
  go_cut [6] from 14 to 27 (fun u6 wx => u6 = .bool (letterB c) ∧ wx = w1.alloc (.cells #[.int .u8 c] 5))
  case first =>
    have hl : Hid (letterB c = (decide (65 ≤ c) && decide (c ≤ 90) || decide (97 ≤ c) && decide (c ≤ 122))) := rfl
    clear hst
    by_cases h1 : 97 ≤ c <;> by_cases h2 : c ≤ 122 <;> by_cases h3 : 65 ≤ c <;> by_cases h4 : c ≤ 90
    all_goals
      go_wp2_with fail
      all_goals
        go_meet
        refine ⟨?_, rfl⟩
        rw [hl.out]
        congr 1
        rw [Bool.eq_iff_iff]
        first | (simp; done) | (simp; omega)
  case rest =>
    obtain ⟨rfl, rfl⟩ := hcut
    clear hst
    obtain ⟨L, hL⟩ : ∃ L, letterB c = L := ⟨_, rfl⟩
    rw [hL] at hpc ⊢
    clear hL
    go_upto_region 5 with fail
    go_cut [7] from 28 to 52 (fun u7 wx => u7 = .bool (plainB c) ∧ wx = w1.alloc (.cells #[.int .u8 c] 5))
    case first =>
      cases L
      · by_cases h1 : 48 ≤ c ∧ c ≤ 57
        · obtain ⟨h1, h2⟩ := h1
          go_wp2_with fail
          all_goals
            go_meet
            refine ⟨?_, rfl⟩
            rw [hpc.out]
            congr 1
            rw [Bool.eq_iff_iff]
            first | (simp; done) | (simp; omega)
        · by_cases h3 : c = 45 ∨ c = 46 ∨ c = 95 ∨ c = 126
          · clear h1
            rcases h3 with rfl | rfl | rfl | rfl
            all_goals
              go_wp2_with fail
              all_goals
                go_meet
                refine ⟨?_, rfl⟩
                rw [hpc.out]
                rfl
          · have e1 : ((c : Int) == 45) = false := by rw [beq_eq_false_iff_ne]; omega
            have e2 : ((c : Int) == 46) = false := by rw [beq_eq_false_iff_ne]; omega
            have e3 : ((c : Int) == 95) = false := by rw [beq_eq_false_iff_ne]; omega
            have e4 : ((c : Int) == 126) = false := by rw [beq_eq_false_iff_ne]; omega
            have hp : Hid (plainB c = false) := by
              show _ = _
              rw [hpc.out]
              simp
              omega
            by_cases h2 : 48 ≤ c
            · have h4 : decide ((c : Int) ≤ 57) = false := by simp; omega
              clear h1 h3
              go_wp2_with fail
              all_goals
                go_meet
                refine ⟨?_, rfl⟩
                rw [hp.out]
            · clear h1 h3
              go_wp2_with fail
              all_goals
                go_meet
                refine ⟨?_, rfl⟩
                rw [hp.out]
      · go_wp2_with fail
        go_meet
        refine ⟨?_, rfl⟩
        rw [hpc.out]
        simp
    case rest =>
      obtain ⟨rfl, rfl⟩ := hcut
      clear hpc
      have hb1 : Below w.heap.size w (w1.alloc (.cells #[.int .u8 c] 5)) := hb.alloc hb.size _
      replace hb := hb1
      clear hb1
      have cw := Lib.hid (fun w => word_walk ⟨#[b]⟩ [b] rfl w (by show 1 ≤ 1000000; omega))
      have cs := Lib.hid (fun w => seen_walk ⟨#[b]⟩ [b] rfl w (by show 1 ≤ 1000000; omega))
      have cv := Lib.hid (fun w => valid_walk ⟨#[b]⟩ [b] rfl w (by show 1 ≤ 1000000; omega))
      have ct := Lib.hid (fun w => token_walk ⟨#[b]⟩ [b] rfl w (by show 1 ≤ 1000000; omega))
      rw [word_one, hbt.out] at cw
      rw [seen_one, hbt.out, show seenB c = (decide (32 ≤ c) && decide (c ≤ 126)) from rfl] at cs
      rw [hbe.out, valid_one ⟨c, hc⟩] at cv
      rw [← hbe.out] at cv
      rw [token_one, hbt.out] at ct
      have hpt := plain_token ⟨c, hc⟩
      obtain ⟨P, hP⟩ : ∃ P, plainB c = P := ⟨_, rfl⟩
      have hPP : P = true → tokenB c = true ∧ (32 ≤ c ∧ c ≤ 126) := fun e => by
        have := hpt (by rw [← e]; exact hP)
        refine ⟨this.1, ?_⟩
        have := this.2.1
        simpa [seenB] using this
      rw [hP] at cw ⊢
      clear hP hpt
      go_wp2_with fail
      refine (some_in 6 (by omega) (HR.out.below hb)).mono ?_
      rintro _ w1 ⟨x, hx, rfl, hbn⟩
      replace hb := below_next hb hbn
      clear hbn
      obtain ⟨l, hl⟩ : ∃ l, x.data.toList = l := ⟨_, rfl⟩
      have hlx : l.length = x.size := by rw [← hl, Lib.size_eq]
      have xw := Lib.hid (fun w => word_walk x l hl w (by omega))
      have xs := Lib.hid (fun w => seen_walk x l hl w (by omega))
      have xv := Lib.hid (fun w => valid_walk x l hl w (by omega))
      have xt := Lib.hid (fun w => token_walk x l hl w (by omega))
      have xr := Lib.hid (fun w => runes_walk x l hl w (by omega))
      have xf := Lib.hid (fun w => fold_walk x l hl w (by omega))
      have hfl : (foldL l).length = l.length := by simp [foldL]
      have xff := Lib.hid (fun w => fold_walk ⟨(foldL l).toArray⟩ (foldL l) (by simp) w (by show (foldL l).toArray.size ≤ 1000000; rw [List.size_toArray]; omega))
      rw [fold_fold] at xff
      obtain ⟨y, hy⟩ : ∃ y, ByteArray.mk (foldL l).toArray = y := ⟨_, rfl⟩
      have hys : y.size = x.size := by rw [← hy]; show (foldL l).toArray.size = _; rw [List.size_toArray]; omega
      rw [hy] at xff xf
      obtain ⟨X, hX⟩ : ∃ X, wordB l = X := ⟨_, rfl⟩
      have hXX : X = true → isToken l = true ∧ (l.all fun b => seenB b.toNat) = true ∧ validL l = true ∧ (runes l).length = x.size := fun e => by
        have := word_all (hX.trans e)
        exact ⟨this.1, this.2.1, this.2.2.1, by omega⟩
      rw [hX] at xw
      have HYS := Lib.hid hys
      clear hl hlx hX hfl hy hys
      have hcl : c < 32 ∨ (32 ≤ c ∧ c ≤ 126) ∨ (32 ≤ c ∧ 126 < c ∧ c < 128) ∨ (32 ≤ c ∧ 128 ≤ c) := by omega
      have hys := HYS.out
      go_upto_region 7 with fail
      simp only [List.append_eq, List.cons_append, List.nil_append]
      cases X
      · clear hXX xs xv xt xr
        cases P
        · clear hPP ct
          rcases hcl with h | ⟨h, h'⟩ | ⟨h, h', h''⟩ | ⟨h, h'⟩
          · rw [show (decide (32 ≤ c) && decide (c ≤ 126)) = false by simp; omega] at cs
            rw [show decide (c < 128) = true by simp; omega] at cv
            go_wp2_with fail
            refine (cw.out _).mono ?_
            rintro _ w1 ⟨rfl, rfl⟩
            go_wp2_with fail
            refine (cs.out _).mono ?_
            rintro _ w1 ⟨rfl, rfl⟩
            go_wp2_with fail
            refine (cv.out _).mono ?_
            rintro _ w1 ⟨rfl, hbn⟩
            replace hb := below_next hb hbn
            clear hbn
            go_wp2_with fail
            refine (xw.out _).mono ?_
            rintro _ w1 ⟨rfl, rfl⟩
            go_wp2_with fail
            refine (xf.out _).mono ?_
            rintro _ w1 ⟨rfl, hbn⟩
            replace hb := below_next hb hbn
            clear hbn
            go_wp2_with fail
            refine (xff.out _).mono ?_
            rintro _ w1 ⟨rfl, hbn⟩
            replace hb := below_next hb hbn
            clear hbn
            go_wp2_with fail
            refine (xf.out _).mono ?_
            rintro _ w1 ⟨rfl, hbn⟩
            replace hb := below_next hb hbn
            clear hbn
            go_wp2_with fail
            refine (xf.out _).mono ?_
            rintro _ w1 ⟨rfl, hbn⟩
            replace hb := below_next hb hbn
            clear hbn
            go_wp2_with fail
            go_ret
            exact ⟨rfl, hb⟩
          · rw [show (decide (32 ≤ c) && decide (c ≤ 126)) = true by simp; omega] at cs
            rw [show decide (c < 128) = true by simp; omega] at cv
            go_wp2_with fail
            refine (cw.out _).mono ?_
            rintro _ w1 ⟨rfl, rfl⟩
            go_wp2_with fail
            refine (cs.out _).mono ?_
            rintro _ w1 ⟨rfl, rfl⟩
            go_wp2_with fail
            refine (cv.out _).mono ?_
            rintro _ w1 ⟨rfl, hbn⟩
            replace hb := below_next hb hbn
            clear hbn
            go_wp2_with fail
            refine (xw.out _).mono ?_
            rintro _ w1 ⟨rfl, rfl⟩
            go_wp2_with fail
            refine (xf.out _).mono ?_
            rintro _ w1 ⟨rfl, hbn⟩
            replace hb := below_next hb hbn
            clear hbn
            go_wp2_with fail
            refine (xff.out _).mono ?_
            rintro _ w1 ⟨rfl, hbn⟩
            replace hb := below_next hb hbn
            clear hbn
            go_wp2_with fail
            refine (xf.out _).mono ?_
            rintro _ w1 ⟨rfl, hbn⟩
            replace hb := below_next hb hbn
            clear hbn
            go_wp2_with fail
            refine (xf.out _).mono ?_
            rintro _ w1 ⟨rfl, hbn⟩
            replace hb := below_next hb hbn
            clear hbn
            go_wp2_with fail
            go_ret
            exact ⟨rfl, hb⟩
          · rw [show (decide (32 ≤ c) && decide (c ≤ 126)) = false by simp; omega] at cs
            rw [show decide (c < 128) = true by simp; omega] at cv
            have d1 : decide ((c : Int) ≤ 126) = false := by simp; omega
            go_wp2_with fail
            refine (cw.out _).mono ?_
            rintro _ w1 ⟨rfl, rfl⟩
            go_wp2_with fail
            refine (cs.out _).mono ?_
            rintro _ w1 ⟨rfl, rfl⟩
            go_wp2_with fail
            refine (cv.out _).mono ?_
            rintro _ w1 ⟨rfl, hbn⟩
            replace hb := below_next hb hbn
            clear hbn
            go_wp2_with fail
            refine (xw.out _).mono ?_
            rintro _ w1 ⟨rfl, rfl⟩
            go_wp2_with fail
            refine (xf.out _).mono ?_
            rintro _ w1 ⟨rfl, hbn⟩
            replace hb := below_next hb hbn
            clear hbn
            go_wp2_with fail
            refine (xff.out _).mono ?_
            rintro _ w1 ⟨rfl, hbn⟩
            replace hb := below_next hb hbn
            clear hbn
            go_wp2_with fail
            refine (xf.out _).mono ?_
            rintro _ w1 ⟨rfl, hbn⟩
            replace hb := below_next hb hbn
            clear hbn
            go_wp2_with fail
            refine (xf.out _).mono ?_
            rintro _ w1 ⟨rfl, hbn⟩
            replace hb := below_next hb hbn
            clear hbn
            go_wp2_with fail
            go_ret
            exact ⟨rfl, hb⟩
          · rw [show (decide (32 ≤ c) && decide (c ≤ 126)) = false by simp; omega] at cs
            rw [show decide (c < 128) = false by simp; omega] at cv
            have h'' : ¬ c ≤ 126 := by omega
            have d1 : decide ((c : Int) ≤ 126) = false := by simp; omega
            have d2 : decide ((c : Int) < 128) = false := by simp; omega
            go_wp2_with fail
            refine (cw.out _).mono ?_
            rintro _ w1 ⟨rfl, rfl⟩
            go_wp2_with fail
            refine (cs.out _).mono ?_
            rintro _ w1 ⟨rfl, rfl⟩
            go_wp2_with fail
            refine (cv.out _).mono ?_
            rintro _ w1 ⟨rfl, hbn⟩
            replace hb := below_next hb hbn
            clear hbn
            go_wp2_with fail
            refine (xw.out _).mono ?_
            rintro _ w1 ⟨rfl, rfl⟩
            go_wp2_with fail
            refine (xf.out _).mono ?_
            rintro _ w1 ⟨rfl, hbn⟩
            replace hb := below_next hb hbn
            clear hbn
            go_wp2_with fail
            refine (xff.out _).mono ?_
            rintro _ w1 ⟨rfl, hbn⟩
            replace hb := below_next hb hbn
            clear hbn
            go_wp2_with fail
            refine (xf.out _).mono ?_
            rintro _ w1 ⟨rfl, hbn⟩
            replace hb := below_next hb hbn
            clear hbn
            go_wp2_with fail
            refine (xf.out _).mono ?_
            rintro _ w1 ⟨rfl, hbn⟩
            replace hb := below_next hb hbn
            clear hbn
            go_wp2_with fail
            go_ret
            exact ⟨rfl, hb⟩
        · obtain ⟨ht, h, h'⟩ := hPP rfl
          rw [ht] at ct
          clear hPP hcl ht
          rw [show (decide (32 ≤ c) && decide (c ≤ 126)) = true by simp; omega] at cs
          rw [show decide (c < 128) = true by simp; omega] at cv
          go_wp2_with fail
          refine (cw.out _).mono ?_
          rintro _ w1 ⟨rfl, rfl⟩
          go_wp2_with fail
          refine (cs.out _).mono ?_
          rintro _ w1 ⟨rfl, rfl⟩
          go_wp2_with fail
          refine (cv.out _).mono ?_
          rintro _ w1 ⟨rfl, hbn⟩
          replace hb := below_next hb hbn
          clear hbn
          go_wp2_with fail
          refine (ct.out _).mono ?_
          rintro _ w1 ⟨rfl, rfl⟩
          go_wp2_with fail
          refine (xw.out _).mono ?_
          rintro _ w1 ⟨rfl, rfl⟩
          go_wp2_with fail
          refine (xf.out _).mono ?_
          rintro _ w1 ⟨rfl, hbn⟩
          replace hb := below_next hb hbn
          clear hbn
          go_wp2_with fail
          refine (xff.out _).mono ?_
          rintro _ w1 ⟨rfl, hbn⟩
          replace hb := below_next hb hbn
          clear hbn
          go_wp2_with fail
          refine (xf.out _).mono ?_
          rintro _ w1 ⟨rfl, hbn⟩
          replace hb := below_next hb hbn
          clear hbn
          go_wp2_with fail
          refine (xf.out _).mono ?_
          rintro _ w1 ⟨rfl, hbn⟩
          replace hb := below_next hb hbn
          clear hbn
          go_wp2_with fail
          go_ret
          exact ⟨rfl, hb⟩
      · obtain ⟨q1, q2, q3, q4⟩ := hXX rfl
        rw [q1] at xt
        rw [q2] at xs
        rw [q3] at xv
        rw [q4] at xr
        clear hXX q1 q2 q3 q4
        cases P
        · clear hPP ct
          rcases hcl with h | ⟨h, h'⟩ | ⟨h, h', h''⟩ | ⟨h, h'⟩
          · rw [show (decide (32 ≤ c) && decide (c ≤ 126)) = false by simp; omega] at cs
            rw [show decide (c < 128) = true by simp; omega] at cv
            go_wp2_with fail
            refine (cw.out _).mono ?_
            rintro _ w1 ⟨rfl, rfl⟩
            go_wp2_with fail
            refine (cs.out _).mono ?_
            rintro _ w1 ⟨rfl, rfl⟩
            go_wp2_with fail
            refine (cv.out _).mono ?_
            rintro _ w1 ⟨rfl, hbn⟩
            replace hb := below_next hb hbn
            clear hbn
            go_wp2_with fail
            refine (xw.out _).mono ?_
            rintro _ w1 ⟨rfl, rfl⟩
            go_wp2_with fail
            refine (xt.out _).mono ?_
            rintro _ w1 ⟨rfl, rfl⟩
            go_wp2_with fail
            refine (xs.out _).mono ?_
            rintro _ w1 ⟨rfl, rfl⟩
            go_wp2_with fail
            refine (xv.out _).mono ?_
            rintro _ w1 ⟨rfl, hbn⟩
            replace hb := below_next hb hbn
            clear hbn
            go_wp2_with fail
            refine (xr.out _).mono ?_
            rintro _ w1 ⟨rfl, hbn⟩
            replace hb := below_next hb hbn
            clear hbn
            go_wp2_with fail
            refine (xf.out _).mono ?_
            rintro _ w1 ⟨rfl, hbn⟩
            replace hb := below_next hb hbn
            clear hbn
            go_wp2_with fail
            refine (xff.out _).mono ?_
            rintro _ w1 ⟨rfl, hbn⟩
            replace hb := below_next hb hbn
            clear hbn
            go_wp2_with fail
            refine (xf.out _).mono ?_
            rintro _ w1 ⟨rfl, hbn⟩
            replace hb := below_next hb hbn
            clear hbn
            go_wp2_with fail
            refine (xf.out _).mono ?_
            rintro _ w1 ⟨rfl, hbn⟩
            replace hb := below_next hb hbn
            clear hbn
            go_wp2_with fail
            go_ret
            exact ⟨rfl, hb⟩
          · rw [show (decide (32 ≤ c) && decide (c ≤ 126)) = true by simp; omega] at cs
            rw [show decide (c < 128) = true by simp; omega] at cv
            go_wp2_with fail
            refine (cw.out _).mono ?_
            rintro _ w1 ⟨rfl, rfl⟩
            go_wp2_with fail
            refine (cs.out _).mono ?_
            rintro _ w1 ⟨rfl, rfl⟩
            go_wp2_with fail
            refine (cv.out _).mono ?_
            rintro _ w1 ⟨rfl, hbn⟩
            replace hb := below_next hb hbn
            clear hbn
            go_wp2_with fail
            refine (xw.out _).mono ?_
            rintro _ w1 ⟨rfl, rfl⟩
            go_wp2_with fail
            refine (xt.out _).mono ?_
            rintro _ w1 ⟨rfl, rfl⟩
            go_wp2_with fail
            refine (xs.out _).mono ?_
            rintro _ w1 ⟨rfl, rfl⟩
            go_wp2_with fail
            refine (xv.out _).mono ?_
            rintro _ w1 ⟨rfl, hbn⟩
            replace hb := below_next hb hbn
            clear hbn
            go_wp2_with fail
            refine (xr.out _).mono ?_
            rintro _ w1 ⟨rfl, hbn⟩
            replace hb := below_next hb hbn
            clear hbn
            go_wp2_with fail
            refine (xf.out _).mono ?_
            rintro _ w1 ⟨rfl, hbn⟩
            replace hb := below_next hb hbn
            clear hbn
            go_wp2_with fail
            refine (xff.out _).mono ?_
            rintro _ w1 ⟨rfl, hbn⟩
            replace hb := below_next hb hbn
            clear hbn
            go_wp2_with fail
            refine (xf.out _).mono ?_
            rintro _ w1 ⟨rfl, hbn⟩
            replace hb := below_next hb hbn
            clear hbn
            go_wp2_with fail
            refine (xf.out _).mono ?_
            rintro _ w1 ⟨rfl, hbn⟩
            replace hb := below_next hb hbn
            clear hbn
            go_wp2_with fail
            go_ret
            exact ⟨rfl, hb⟩
          · rw [show (decide (32 ≤ c) && decide (c ≤ 126)) = false by simp; omega] at cs
            rw [show decide (c < 128) = true by simp; omega] at cv
            have d1 : decide ((c : Int) ≤ 126) = false := by simp; omega
            go_wp2_with fail
            refine (cw.out _).mono ?_
            rintro _ w1 ⟨rfl, rfl⟩
            go_wp2_with fail
            refine (cs.out _).mono ?_
            rintro _ w1 ⟨rfl, rfl⟩
            go_wp2_with fail
            refine (cv.out _).mono ?_
            rintro _ w1 ⟨rfl, hbn⟩
            replace hb := below_next hb hbn
            clear hbn
            go_wp2_with fail
            refine (xw.out _).mono ?_
            rintro _ w1 ⟨rfl, rfl⟩
            go_wp2_with fail
            refine (xt.out _).mono ?_
            rintro _ w1 ⟨rfl, rfl⟩
            go_wp2_with fail
            refine (xs.out _).mono ?_
            rintro _ w1 ⟨rfl, rfl⟩
            go_wp2_with fail
            refine (xv.out _).mono ?_
            rintro _ w1 ⟨rfl, hbn⟩
            replace hb := below_next hb hbn
            clear hbn
            go_wp2_with fail
            refine (xr.out _).mono ?_
            rintro _ w1 ⟨rfl, hbn⟩
            replace hb := below_next hb hbn
            clear hbn
            go_wp2_with fail
            refine (xf.out _).mono ?_
            rintro _ w1 ⟨rfl, hbn⟩
            replace hb := below_next hb hbn
            clear hbn
            go_wp2_with fail
            refine (xff.out _).mono ?_
            rintro _ w1 ⟨rfl, hbn⟩
            replace hb := below_next hb hbn
            clear hbn
            go_wp2_with fail
            refine (xf.out _).mono ?_
            rintro _ w1 ⟨rfl, hbn⟩
            replace hb := below_next hb hbn
            clear hbn
            go_wp2_with fail
            refine (xf.out _).mono ?_
            rintro _ w1 ⟨rfl, hbn⟩
            replace hb := below_next hb hbn
            clear hbn
            go_wp2_with fail
            go_ret
            exact ⟨rfl, hb⟩
          · rw [show (decide (32 ≤ c) && decide (c ≤ 126)) = false by simp; omega] at cs
            rw [show decide (c < 128) = false by simp; omega] at cv
            have h'' : ¬ c ≤ 126 := by omega
            have d1 : decide ((c : Int) ≤ 126) = false := by simp; omega
            have d2 : decide ((c : Int) < 128) = false := by simp; omega
            go_wp2_with fail
            refine (cw.out _).mono ?_
            rintro _ w1 ⟨rfl, rfl⟩
            go_wp2_with fail
            refine (cs.out _).mono ?_
            rintro _ w1 ⟨rfl, rfl⟩
            go_wp2_with fail
            refine (cv.out _).mono ?_
            rintro _ w1 ⟨rfl, hbn⟩
            replace hb := below_next hb hbn
            clear hbn
            go_wp2_with fail
            refine (xw.out _).mono ?_
            rintro _ w1 ⟨rfl, rfl⟩
            go_wp2_with fail
            refine (xt.out _).mono ?_
            rintro _ w1 ⟨rfl, rfl⟩
            go_wp2_with fail
            refine (xs.out _).mono ?_
            rintro _ w1 ⟨rfl, rfl⟩
            go_wp2_with fail
            refine (xv.out _).mono ?_
            rintro _ w1 ⟨rfl, hbn⟩
            replace hb := below_next hb hbn
            clear hbn
            go_wp2_with fail
            refine (xr.out _).mono ?_
            rintro _ w1 ⟨rfl, hbn⟩
            replace hb := below_next hb hbn
            clear hbn
            go_wp2_with fail
            refine (xf.out _).mono ?_
            rintro _ w1 ⟨rfl, hbn⟩
            replace hb := below_next hb hbn
            clear hbn
            go_wp2_with fail
            refine (xff.out _).mono ?_
            rintro _ w1 ⟨rfl, hbn⟩
            replace hb := below_next hb hbn
            clear hbn
            go_wp2_with fail
            refine (xf.out _).mono ?_
            rintro _ w1 ⟨rfl, hbn⟩
            replace hb := below_next hb hbn
            clear hbn
            go_wp2_with fail
            refine (xf.out _).mono ?_
            rintro _ w1 ⟨rfl, hbn⟩
            replace hb := below_next hb hbn
            clear hbn
            go_wp2_with fail
            go_ret
            exact ⟨rfl, hb⟩
        · obtain ⟨ht, h, h'⟩ := hPP rfl
          rw [ht] at ct
          clear hPP hcl ht
          rw [show (decide (32 ≤ c) && decide (c ≤ 126)) = true by simp; omega] at cs
          rw [show decide (c < 128) = true by simp; omega] at cv
          go_wp2_with fail
          refine (cw.out _).mono ?_
          rintro _ w1 ⟨rfl, rfl⟩
          go_wp2_with fail
          refine (cs.out _).mono ?_
          rintro _ w1 ⟨rfl, rfl⟩
          go_wp2_with fail
          refine (cv.out _).mono ?_
          rintro _ w1 ⟨rfl, hbn⟩
          replace hb := below_next hb hbn
          clear hbn
          go_wp2_with fail
          refine (ct.out _).mono ?_
          rintro _ w1 ⟨rfl, rfl⟩
          go_wp2_with fail
          refine (xw.out _).mono ?_
          rintro _ w1 ⟨rfl, rfl⟩
          go_wp2_with fail
          refine (xt.out _).mono ?_
          rintro _ w1 ⟨rfl, rfl⟩
          go_wp2_with fail
          refine (xs.out _).mono ?_
          rintro _ w1 ⟨rfl, rfl⟩
          go_wp2_with fail
          refine (xv.out _).mono ?_
          rintro _ w1 ⟨rfl, hbn⟩
          replace hb := below_next hb hbn
          clear hbn
          go_wp2_with fail
          refine (xr.out _).mono ?_
          rintro _ w1 ⟨rfl, hbn⟩
          replace hb := below_next hb hbn
          clear hbn
          go_wp2_with fail
          refine (xf.out _).mono ?_
          rintro _ w1 ⟨rfl, hbn⟩
          replace hb := below_next hb hbn
          clear hbn
          go_wp2_with fail
          refine (xff.out _).mono ?_
          rintro _ w1 ⟨rfl, hbn⟩
          replace hb := below_next hb hbn
          clear hbn
          go_wp2_with fail
          refine (xf.out _).mono ?_
          rintro _ w1 ⟨rfl, hbn⟩
          replace hb := below_next hb hbn
          clear hbn
          go_wp2_with fail
          refine (xf.out _).mono ?_
          rintro _ w1 ⟨rfl, hbn⟩
          replace hb := below_next hb hbn
          clear hbn
          go_wp2_with fail
          go_ret
          exact ⟨rfl, hb⟩
end Go.Proofs.Ytnnblddloabbjaa

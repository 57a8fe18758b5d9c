/- FormAll: of any fields their text, of any text its fields, or why there are none. Condition: the table of digits is laid. -/
import Derived.Test.YtkdhnfifhaepaaaDoorHo
import Derived.Test.YtkdhnfifhaepaaaDoorHs
import Derived.Lib.MinMax
set_option linter.unusedVariables false
set_option linter.unusedSimpArgs false
set_option maxRecDepth 20000
namespace Go.Proofs.YtkdhnfifhaepaaaDoor
open Go.RowKit Pc
theorem goF_len : ∀ (ps : List (List UInt8)) (acc : List Fl), (goF acc ps).2.length ≤ acc.length + ps.length
  | [], acc => by rw [goF]; exact Nat.le_refl _
  | p :: ps, acc => by
    rw [goF]
    cases fieldO p with
    | none => simp
    | some f =>
      simp only
      split
      · simp
      · have := goF_len ps (acc ++ [f])
        rw [List.length_append] at this
        simp only [List.length_cons, List.length_nil] at this ⊢
        omega
theorem formE_len (l : List UInt8) : (formE l).2.length ≤ 24 := by
  unfold formE
  split
  · simp
  · split
    · rename_i h
      have := goF_len (splitC 38 l) []
      simp only [List.length_nil] at this
      omega
    · simp
theorem sumF_step (fs : List Fl) (k : Nat) (f : Fl) (h : fs[k]? = some f) : sumF (fs.take (k + 1)) = sumF (fs.take k) + (f.n.length + f.v.length) := by
  rw [List.take_add_one, h, sumF_append]
  simp [sumF]
theorem sumF_leA {fs : List Fl} {m : Nat} (h : ∀ f ∈ fs, f.n.length + f.v.length ≤ m) : sumF fs ≤ m * fs.length := by
  induction fs with
  | nil => simp [sumF]
  | cons f fs ih =>
    have h1 := h f List.mem_cons_self
    have h2 := ih (fun g hg => h g (List.mem_cons_of_mem _ hg))
    rw [sumF_cons, List.length_cons, Nat.mul_succ]
    omega
theorem formAll_far (x : ByteArray) (A : Option Addr) (n c : Nat) (B : Option Addr) (m d : Nat) (y : ByteArray) (w : World) (hd : DigOk w) (h : 300 < x.size ∨ 40 < m) :
    Calls Tryd.prog 3 #[.string x, .slice A n c, .slice B m d, .string y] w fun e w' => e = .returned (.bool true) ∧ Below w.heap.size w w' := by
  by_cases h1 : 300 < x.size
  · have hl' : decide ((300 : Int) < (x.size : Int)) = true := by simp; omega
    clear h
    go_enter Tryd.func3, Tryd.ntmps3
    go_wp2_with fail
    refine (known_walk w hd).mono ?_
    rintro _ w1 ⟨rfl, hb⟩
    go_wp2_with fail
    go_ret
    exact ⟨rfl, hb⟩
  · have h2 : 40 < m := by omega
    have hl' : decide ((300 : Int) < (x.size : Int)) = false := by simp; omega
    have hl2 : decide ((40 : Int) < (m : Int)) = true := by simp; omega
    clear h
    go_enter Tryd.func3, Tryd.ntmps3
    go_wp2_with fail
    refine (known_walk w hd).mono ?_
    rintro _ w1 ⟨rfl, hb⟩
    go_wp2_with fail
    go_ret
    exact ⟨rfl, hb⟩
set_option maxHeartbeats 16000000 in
set_option maxRecDepth 100000 in
theorem formAll_law (x : ByteArray) (zs : List Int) (A : Option Addr) (c : Nat) (fs : List Fl) (B : Option Addr) (d : Nat) (y : ByteArray) (w : World) (h : IntsIn w A c zs) (hf : FsAt w B d fs) (hd : DigOk w) (hx : x.size ≤ 300) (hl : fs.length ≤ 40) :
    Calls Tryd.prog 3 #[.string x, .slice A zs.length c, .slice B fs.length d, .string y] w fun e w' => e = .returned (.bool true) ∧ Below w.heap.size w w' := by
  have hl1 : decide ((300 : Int) < (x.size : Int)) = false := by simp; omega
  have hl2 : decide ((40 : Int) < (fs.length : Int)) = false := by simp; omega
  have HD := Lib.hid hd
  have H := Lib.hid h
  have HF := Lib.hid hf
  clear hd h hf
  go_enter Tryd.func3, Tryd.ntmps3
  go_wp2_with fail
  refine (known_walk w HD.out).mono ?_
  rintro _ w1 ⟨rfl, hb1⟩
  have HB := Lib.hid hb1
  clear hb1
  go_wp2_with fail
  go_loopw [9, 10] (fun mv iv wr => ∃ i m : Nat, i ≤ fs.length ∧ m ≤ 2000 ∧ iv = .int .i64 i ∧ mv = .int .i64 m ∧ Hid (m = sumF (fs.take i)) ∧ Hid (Below w.heap.size w wr)) (fun _ iv _ => fs.length - (intOf iv).toNat)
  case atStart => exact ⟨0, 0, by omega, by omega, rfl, rfl, rfl, HB⟩
  case round =>
    clear HB
    obtain ⟨i, m, hi, hm, rfl, rfl, hs, HB⟩ := hrel
    by_cases hlt : i < fs.length
    · obtain ⟨ad, rfl⟩ : ∃ ad, B = some ad := by obtain ⟨ad, h, _⟩ := HF.out.2.2.2 (by omega); exact ⟨ad, h⟩
      obtain ⟨f, hfk⟩ : ∃ f, fs[i]? = some f := ⟨fs[i], List.getElem?_eq_getElem hlt⟩
      have hS0 : wr.drew.cell? (ad.add (i * 2)) = some (.string ⟨f.n.toArray⟩) ∧ wr.drew.cell? ⟨(ad.add (i * 2)).block, (ad.add (i * 2)).off + 1, none⟩ = some (.string ⟨f.v.toArray⟩) := fl_two (HF.out.below HB.out).2.2 hfk
      have hst := Lib.hid (sumF_step fs i f hfk)
      have hki : (i : Int) < (fs.length : Int) := by omega
      have hsn := size_mks f.n
      have hsv := size_mks f.v
      clear hfk
      go_wp2_with fail
      refine wp_region_held_drew (S := fun W => W.cell? (ad.add (i * 2)) = some (.string ⟨f.n.toArray⟩) ∧ W.cell? ⟨(ad.add (i * 2)).block, (ad.add (i * 2)).off + 1, none⟩ = some (.string ⟨f.v.toArray⟩)) (by kernel_rfl) hS0 (fun hHeld => ?_)
      first | (refine wpAnyH_take (i := 0) (v := _) rfl (by kernel_rfl) (by kernel_rfl) (by kernel_rfl) (fun _ _ _ h => h) (Or.inr ⟨?_, rfl⟩) (by assumption) ?_; rfl) | (refine wpAnyH_take (i := 0) (v := ?_) rfl (by kernel_rfl) (by kernel_rfl) (by kernel_rfl) (fun _ _ _ h => h) (Or.inl ⟨?_, ?_⟩) (by assumption) ?_; rotate_left; rfl; focus (intro w hSw; (try dsimp only at hSw); go_simp; all_goals (with_reducible rfl)))
      (try simp only [List.getElem_toArray, List.getElem_cons_zero, List.getElem_cons_succ, Act.put, List.setIfInBounds_toArray, List.set_cons_zero, List.set_cons_succ])
      first | (refine wpAnyH_take (i := 1) (v := _) rfl (by kernel_rfl) (by kernel_rfl) (by kernel_rfl) (fun _ _ _ h => h) (Or.inr ⟨?_, rfl⟩) (by assumption) ?_; rfl) | (refine wpAnyH_take (i := 1) (v := ?_) rfl (by kernel_rfl) (by kernel_rfl) (by kernel_rfl) (fun _ _ _ h => h) (Or.inl ⟨?_, ?_⟩) (by assumption) ?_; rotate_left; rfl; focus (intro w hSw; (try dsimp only at hSw); go_simp; all_goals (with_reducible rfl)))
      (try simp only [List.getElem_toArray, List.getElem_cons_zero, List.getElem_cons_succ, Act.put, List.setIfInBounds_toArray, List.set_cons_zero, List.set_cons_succ])
      first | (refine wpAnyH_take (i := 2) (v := _) rfl (by kernel_rfl) (by kernel_rfl) (by kernel_rfl) (fun _ _ _ h => h) (Or.inr ⟨?_, rfl⟩) (by assumption) ?_; rfl) | (refine wpAnyH_take (i := 2) (v := ?_) rfl (by kernel_rfl) (by kernel_rfl) (by kernel_rfl) (fun _ _ _ h => h) (Or.inl ⟨?_, ?_⟩) (by assumption) ?_; rotate_left; rfl; focus (intro w hSw; (try dsimp only at hSw); go_simp; all_goals (with_reducible rfl)))
      (try simp only [List.getElem_toArray, List.getElem_cons_zero, List.getElem_cons_succ, Act.put, List.setIfInBounds_toArray, List.set_cons_zero, List.set_cons_succ])
      first | (refine wpAnyH_take (i := 3) (v := _) rfl (by kernel_rfl) (by kernel_rfl) (by kernel_rfl) (fun _ _ _ h => h) (Or.inr ⟨?_, rfl⟩) (by assumption) ?_; rfl) | (refine wpAnyH_take (i := 3) (v := ?_) rfl (by kernel_rfl) (by kernel_rfl) (by kernel_rfl) (fun _ _ _ h => h) (Or.inl ⟨?_, ?_⟩) (by assumption) ?_; rotate_left; rfl; focus (intro w hSw; (try dsimp only at hSw); go_simp; all_goals (with_reducible rfl)))
      (try simp only [List.getElem_toArray, List.getElem_cons_zero, List.getElem_cons_succ, Act.put, List.setIfInBounds_toArray, List.set_cons_zero, List.set_cons_succ])
      first | (refine wpAnyH_take (i := 4) (v := _) rfl (by kernel_rfl) (by kernel_rfl) (by kernel_rfl) (fun _ _ _ h => h) (Or.inr ⟨?_, rfl⟩) (by assumption) ?_; rfl) | (refine wpAnyH_take (i := 4) (v := ?_) rfl (by kernel_rfl) (by kernel_rfl) (by kernel_rfl) (fun _ _ _ h => h) (Or.inl ⟨?_, ?_⟩) (by assumption) ?_; rotate_left; rfl; focus (intro w hSw; (try dsimp only at hSw); go_simp; all_goals (with_reducible rfl)))
      (try simp only [List.getElem_toArray, List.getElem_cons_zero, List.getElem_cons_succ, Act.put, List.setIfInBounds_toArray, List.set_cons_zero, List.set_cons_succ])
      first | (refine wpAnyH_take (i := 5) (v := _) rfl (by kernel_rfl) (by kernel_rfl) (by kernel_rfl) (fun _ _ _ h => h) (Or.inr ⟨?_, rfl⟩) (by assumption) ?_; rfl) | (refine wpAnyH_take (i := 5) (v := ?_) rfl (by kernel_rfl) (by kernel_rfl) (by kernel_rfl) (fun _ _ _ h => h) (Or.inl ⟨?_, ?_⟩) (by assumption) ?_; rotate_left; rfl; focus (intro w hSw; (try dsimp only at hSw); go_simp; all_goals (with_reducible rfl)))
      (try simp only [List.getElem_toArray, List.getElem_cons_zero, List.getElem_cons_succ, Act.put, List.setIfInBounds_toArray, List.set_cons_zero, List.set_cons_succ])
      first | (refine wpAnyH_take (i := 6) (v := _) rfl (by kernel_rfl) (by kernel_rfl) (by kernel_rfl) (fun _ _ _ h => h) (Or.inr ⟨?_, rfl⟩) (by assumption) ?_; rfl) | (refine wpAnyH_take (i := 6) (v := ?_) rfl (by kernel_rfl) (by kernel_rfl) (by kernel_rfl) (fun _ _ _ h => h) (Or.inl ⟨?_, ?_⟩) (by assumption) ?_; rotate_left; rfl; focus (intro w hSw; (try dsimp only at hSw); go_simp; all_goals (with_reducible rfl)))
      (try simp only [List.getElem_toArray, List.getElem_cons_zero, List.getElem_cons_succ, Act.put, List.setIfInBounds_toArray, List.set_cons_zero, List.set_cons_succ])
      first | (refine wpAnyH_take (i := 7) (v := _) rfl (by kernel_rfl) (by kernel_rfl) (by kernel_rfl) (fun _ _ _ h => h) (Or.inr ⟨?_, rfl⟩) (by assumption) ?_; rfl) | (refine wpAnyH_take (i := 7) (v := ?_) rfl (by kernel_rfl) (by kernel_rfl) (by kernel_rfl) (fun _ _ _ h => h) (Or.inl ⟨?_, ?_⟩) (by assumption) ?_; rotate_left; rfl; focus (intro w hSw; (try dsimp only at hSw); go_simp; all_goals (with_reducible rfl)))
      (try simp only [List.getElem_toArray, List.getElem_cons_zero, List.getElem_cons_succ, Act.put, List.setIfInBounds_toArray, List.set_cons_zero, List.set_cons_succ])
      first | (refine wpAnyH_take (i := 8) (v := _) rfl (by kernel_rfl) (by kernel_rfl) (by kernel_rfl) (fun _ _ _ h => h) (Or.inr ⟨?_, rfl⟩) (by assumption) ?_; rfl) | (refine wpAnyH_take (i := 8) (v := ?_) rfl (by kernel_rfl) (by kernel_rfl) (by kernel_rfl) (fun _ _ _ h => h) (Or.inl ⟨?_, ?_⟩) (by assumption) ?_; rotate_left; rfl; focus (intro w hSw; (try dsimp only at hSw); go_simp; all_goals (with_reducible rfl)))
      (try simp only [List.getElem_toArray, List.getElem_cons_zero, List.getElem_cons_succ, Act.put, List.setIfInBounds_toArray, List.set_cons_zero, List.set_cons_succ])
      first | (refine wpAnyH_take (i := 9) (v := _) rfl (by kernel_rfl) (by kernel_rfl) (by kernel_rfl) (fun _ _ _ h => h) (Or.inr ⟨?_, rfl⟩) (by assumption) ?_; rfl) | (refine wpAnyH_take (i := 9) (v := ?_) rfl (by kernel_rfl) (by kernel_rfl) (by kernel_rfl) (fun _ _ _ h => h) (Or.inl ⟨?_, ?_⟩) (by assumption) ?_; rotate_left; rfl; focus (intro w hSw; (try dsimp only at hSw); go_simp; all_goals (with_reducible rfl)))
      (try simp only [List.getElem_toArray, List.getElem_cons_zero, List.getElem_cons_succ, Act.put, List.setIfInBounds_toArray, List.set_cons_zero, List.set_cons_succ])
      first | (refine wpAnyH_take (i := 10) (v := _) rfl (by kernel_rfl) (by kernel_rfl) (by kernel_rfl) (fun _ _ _ h => h) (Or.inr ⟨?_, rfl⟩) (by assumption) ?_; rfl) | (refine wpAnyH_take (i := 10) (v := ?_) rfl (by kernel_rfl) (by kernel_rfl) (by kernel_rfl) (fun _ _ _ h => h) (Or.inl ⟨?_, ?_⟩) (by assumption) ?_; rotate_left; rfl; focus (intro w hSw; (try dsimp only at hSw); go_simp; all_goals (with_reducible rfl)))
      (try simp only [List.getElem_toArray, List.getElem_cons_zero, List.getElem_cons_succ, Act.put, List.setIfInBounds_toArray, List.set_cons_zero, List.set_cons_succ])
      first | (refine wpAnyH_take (i := 11) (v := _) rfl (by kernel_rfl) (by kernel_rfl) (by kernel_rfl) (fun _ _ _ h => h) (Or.inr ⟨?_, rfl⟩) (by assumption) ?_; rfl) | (refine wpAnyH_take (i := 11) (v := ?_) rfl (by kernel_rfl) (by kernel_rfl) (by kernel_rfl) (fun _ _ _ h => h) (Or.inl ⟨?_, ?_⟩) (by assumption) ?_; rotate_left; rfl; focus (intro w hSw; (try dsimp only at hSw); go_simp; all_goals (with_reducible rfl)))
      (try simp only [List.getElem_toArray, List.getElem_cons_zero, List.getElem_cons_succ, Act.put, List.setIfInBounds_toArray, List.set_cons_zero, List.set_cons_succ])
      first | (refine wpAnyH_take (i := 12) (v := _) rfl (by kernel_rfl) (by kernel_rfl) (by kernel_rfl) (fun _ _ _ h => h) (Or.inr ⟨?_, rfl⟩) (by assumption) ?_; rfl) | (refine wpAnyH_take (i := 12) (v := ?_) rfl (by kernel_rfl) (by kernel_rfl) (by kernel_rfl) (fun _ _ _ h => h) (Or.inl ⟨?_, ?_⟩) (by assumption) ?_; rotate_left; rfl; focus (intro w hSw; (try dsimp only at hSw); go_simp; all_goals (with_reducible rfl)))
      (try simp only [List.getElem_toArray, List.getElem_cons_zero, List.getElem_cons_succ, Act.put, List.setIfInBounds_toArray, List.set_cons_zero, List.set_cons_succ])
      first | (refine wpAnyH_take (i := 13) (v := _) rfl (by kernel_rfl) (by kernel_rfl) (by kernel_rfl) (fun _ _ _ h => h) (Or.inr ⟨?_, rfl⟩) (by assumption) ?_; rfl) | (refine wpAnyH_take (i := 13) (v := ?_) rfl (by kernel_rfl) (by kernel_rfl) (by kernel_rfl) (fun _ _ _ h => h) (Or.inl ⟨?_, ?_⟩) (by assumption) ?_; rotate_left; rfl; focus (intro w hSw; (try dsimp only at hSw); go_simp; all_goals (with_reducible rfl)))
      (try simp only [List.getElem_toArray, List.getElem_cons_zero, List.getElem_cons_succ, Act.put, List.setIfInBounds_toArray, List.set_cons_zero, List.set_cons_succ])
      first | (refine wpAnyH_take (i := 14) (v := _) rfl (by kernel_rfl) (by kernel_rfl) (by kernel_rfl) (fun _ _ _ h => h) (Or.inr ⟨?_, rfl⟩) (by assumption) ?_; rfl) | (refine wpAnyH_take (i := 14) (v := ?_) rfl (by kernel_rfl) (by kernel_rfl) (by kernel_rfl) (fun _ _ _ h => h) (Or.inl ⟨?_, ?_⟩) (by assumption) ?_; rotate_left; rfl; focus (intro w hSw; (try dsimp only at hSw); go_simp; all_goals (with_reducible rfl)))
      (try simp only [List.getElem_toArray, List.getElem_cons_zero, List.getElem_cons_succ, Act.put, List.setIfInBounds_toArray, List.set_cons_zero, List.set_cons_succ])
      first | (refine wpAnyH_take (i := 15) (v := _) rfl (by kernel_rfl) (by kernel_rfl) (by kernel_rfl) (fun _ _ _ h => h) (Or.inr ⟨?_, rfl⟩) (by assumption) ?_; rfl) | (refine wpAnyH_take (i := 15) (v := ?_) rfl (by kernel_rfl) (by kernel_rfl) (by kernel_rfl) (fun _ _ _ h => h) (Or.inl ⟨?_, ?_⟩) (by assumption) ?_; rotate_left; rfl; focus (intro w hSw; (try dsimp only at hSw); go_simp; all_goals (with_reducible rfl)))
      (try simp only [List.getElem_toArray, List.getElem_cons_zero, List.getElem_cons_succ, Act.put, List.setIfInBounds_toArray, List.set_cons_zero, List.set_cons_succ])
      first | (refine wpAnyH_take (i := 16) (v := _) rfl (by kernel_rfl) (by kernel_rfl) (by kernel_rfl) (fun _ _ _ h => h) (Or.inr ⟨?_, rfl⟩) (by assumption) ?_; rfl) | (refine wpAnyH_take (i := 16) (v := ?_) rfl (by kernel_rfl) (by kernel_rfl) (by kernel_rfl) (fun _ _ _ h => h) (Or.inl ⟨?_, ?_⟩) (by assumption) ?_; rotate_left; rfl; focus (intro w hSw; (try dsimp only at hSw); go_simp; all_goals (with_reducible rfl)))
      (try simp only [List.getElem_toArray, List.getElem_cons_zero, List.getElem_cons_succ, Act.put, List.setIfInBounds_toArray, List.set_cons_zero, List.set_cons_succ])
      first | (refine wpAnyH_take (i := 17) (v := _) rfl (by kernel_rfl) (by kernel_rfl) (by kernel_rfl) (fun _ _ _ h => h) (Or.inr ⟨?_, rfl⟩) (by assumption) ?_; rfl) | (refine wpAnyH_take (i := 17) (v := ?_) rfl (by kernel_rfl) (by kernel_rfl) (by kernel_rfl) (fun _ _ _ h => h) (Or.inl ⟨?_, ?_⟩) (by assumption) ?_; rotate_left; rfl; focus (intro w hSw; (try dsimp only at hSw); go_simp; all_goals (with_reducible rfl)))
      (try simp only [List.getElem_toArray, List.getElem_cons_zero, List.getElem_cons_succ, Act.put, List.setIfInBounds_toArray, List.set_cons_zero, List.set_cons_succ])
      refine wpAnyH_done (by kernel_rfl) ?_ _
      clear hHeld hS0
      obtain ⟨m2, hm2⟩ : ∃ m2 : Nat, m + min f.n.length 4000 + min f.v.length 4000 = m2 := ⟨_, rfl⟩
      have hw : IntKind.i64.wrap (IntKind.i64.wrap ((m : Int) + min (f.n.length : Int) 4000) + min (f.v.length : Int) 4000) = (m2 : Int) := by
        rw [IntKind.wrap_i64, IntKind.wrap_i64]
        omega
      rw [hw]
      have HM : Hid (m2 ≤ 2000 → m2 = sumF (fs.take (i + 1))) := fun h => by rw [hst.out, ← hs.out]; omega
      have hms : m2 ≤ 10000 := by omega
      clear hw hm2 hsn hsv
      by_cases h2 : 2000 < m2
      · have hd2 : decide ((2000 : Int) < (m2 : Int)) = true := by simp; omega
        go_wp2_with fail
        go_ret
        exact ⟨rfl, HB.out.drew⟩
      · have hd2 : decide ((2000 : Int) < (m2 : Int)) = false := by simp; omega
        have HN : Hid (m2 = sumF (fs.take (i + 1))) := HM.out (by omega)
        go_wp2_with fail
        exact ⟨⟨i + 1, m2, by omega, by omega, by go_num, rfl, HN, HB.out.drew⟩, by simp [intOf]; omega⟩
    · obtain rfl : i = fs.length := by omega
      rw [List.take_length] at hs
      have hsum : sumF fs ≤ 2000 := by rw [← hs.out]; exact hm
      have hpl := printL_len fs
      have HT := Lib.hid (H.out.below HB.out)
      clear hs
      go_wp2_with fail
      refine (text_walk zs A c 20 (by decide) wr HT.out).mono ?_
      rintro _ w2 ⟨t, ht, rfl, hbn⟩
      have HB2 := Lib.hid (below_next HB.out hbn)
      clear hbn HB HT
      go_wp2_with fail
      refine (rprint_walk fs B d w2 (HF.out.below HB2.out) (by omega)).mono ?_
      rintro _ w3 ⟨rfl, hbn⟩
      have HB3 := Lib.hid (below_next HB2.out hbn)
      clear hbn HB2
      go_wp2_with fail
      refine (fields_walk zs A c 6 (by decide) w3 (H.out.below HB3.out)).mono ?_
      rintro _ w4 ⟨v, gs, rfl, hown, _, hg6, hgs, hbn⟩
      have HB4 := Lib.hid (below_next HB3.out hbn)
      obtain ⟨A4, c4, rfl, hg⟩ := FsAt.own hown (by omega)
      have HG := Lib.hid hg
      have hgsum : sumF gs ≤ 18 * gs.length := sumF_leA (fun f hf => by have := hgs f hf; omega)
      have hgl := printL_len gs
      clear hbn hown hg hgs HB3
      go_wp2_with fail
      refine (rprint_walk gs A4 c4 w4 HG.out (by omega)).mono ?_
      rintro _ w5 ⟨rfl, hbn⟩
      have hb5 := below_next HB4.out hbn
      have hs3 := size_mks (printL fs)
      have hs4 := size_mks (printL gs)
      obtain ⟨p1, hp1⟩ : ∃ p1 : ByteArray, (⟨(printL fs).toArray⟩ : ByteArray) = p1 := ⟨_, rfl⟩
      obtain ⟨p2, hp2⟩ : ∃ p2 : ByteArray, (⟨(printL gs).toArray⟩ : ByteArray) = p2 := ⟨_, rfl⟩
      rw [hp1] at hs3 ⊢
      rw [hp2] at hs4 ⊢
      have HB := Lib.hid (hb5.alloc hb5.size (.cells #[.string x, .string t, .string p1, .string (p2 ++ x)] 9))
      have hrow : Hid (RowT (w5.alloc (.cells #[.string x, .string t, .string p1, .string (p2 ++ x)] 9)) w5.heap.size [x, t, p1, p2 ++ x]) := RowT.new w5 9 [x, t, p1, p2 ++ x]
      have hL : Hid (∀ z ∈ [x, t, p1, p2 ++ x], z.size ≤ 10000) := by
        intro z hz
        simp only [List.mem_cons, List.not_mem_nil, or_false] at hz
        rcases hz with rfl | rfl | rfl | rfl
        · omega
        · omega
        · omega
        · rw [ByteArray.size_append]; omega
      have hL4 : Hid ([x, t, p1, p2 ++ x].length = 4) := rfl
      obtain ⟨L, hLe⟩ : ∃ L, [x, t, p1, p2 ++ x] = L := ⟨_, rfl⟩
      rw [hLe] at hL hL4 hrow
      have hx1 : ¬ 9223372036854775807 < p2.size + x.size := by omega
      clear hbn hb5 HB4 HG hp1 hp2
      go_wp2_with fail
      generalize w5.heap.size = g at hrow ⊢
      go_loopw [12] (fun iv wr => ∃ i : Nat, i ≤ 4 ∧ iv = .int .i64 i ∧ Hid (RowT wr g L) ∧ Hid (Below w.heap.size w wr)) (fun iv _ => 4 - (intOf iv).toNat)
      case atStart => exact ⟨0, by omega, rfl, hrow, HB⟩
      case round =>
        clear hrow HB
        obtain ⟨i, hi, rfl, HR, HB⟩ := hrel
        by_cases hlt : i < 4
        · obtain ⟨z, hz⟩ : ∃ z, L[i]? = some z := ⟨_, List.getElem?_eq_getElem (by have := hL4.out; omega)⟩
          have hzs := hL.out z (List.mem_of_getElem? hz)
          have HZ := Lib.hid hz
          have hc := HR.out.2 i z hz
          have hki : (i : Int) < 4 := by omega
          have hfl := formE_len z.data.toList
          have cp := Lib.hid (parse_walk z _ rfl wr (HD.out.below HB.out) (by omega))
          have cq := Lib.hid (fun W => rparse_walk z _ rfl W (by omega))
          clear hz
          go_wp2_with fail
          refine cp.out.mono ?_
          rintro _ w6 ⟨v6, rfl, hown6, hbn⟩
          have HR6 := Lib.hid (HR.out.below hbn HR.out.1)
          have HB6 := Lib.hid (below_next HB.out hbn)
          have hc1 := HR6.out.2 i z HZ.out
          obtain ⟨A6, c6, rfl, hf6⟩ := FsAt.own hown6 (by omega)
          have HF6 := Lib.hid hf6
          clear hbn hown6 hf6 HR HB hc cp
          go_wp2_with fail
          refine (cq.out w6).mono ?_
          rintro _ w7 ⟨v7, rfl, hown7, hbn⟩
          have HR7 := Lib.hid (HR6.out.below hbn HR6.out.1)
          have HB7 := Lib.hid (below_next HB6.out hbn)
          obtain ⟨A7, c7, rfl, hf7⟩ := FsAt.own hown7 (by omega)
          have cs := Lib.hid (same_walk _ _ A6 A7 c6 c7 w7 (HF6.out.below hbn) hf7)
          rw [decide_eq_true rfl] at cs
          generalize (formE z.data.toList).2 = ls at cs ⊢
          generalize ((formE z.data.toList).1 : Int) = E
          clear hbn hown7 hf7 HR6 HB6 hc1 HF6 cq hfl
          go_wp2_with fail
          refine cs.out.mono ?_
          rintro _ w8 ⟨rfl, n8, rfl⟩
          clear cs
          go_wp2_with fail
          exact ⟨⟨i + 1, by omega, by go_num, HR7.out.below (below_drewN (Below.refl w7.heap.size w7) n8) HR7.out.1, below_drewN HB7.out n8⟩, by simp [intOf]; omega⟩
        · have cg := Lib.hid (get_walk fs B d y.data.toList y rfl wr (HF.out.below HB.out))
          clear HR
          go_wp2_with fail
          refine cg.out.mono ?_
          rintro _ w6 ⟨rfl, hbn⟩
          have HB6 := Lib.hid (below_next HB.out hbn)
          have cg2 := Lib.hid (rget_walk fs B d y.data.toList y rfl w6 (HF.out.below HB6.out))
          obtain ⟨gx, gb, hgv, _⟩ := getV_cases (getF y.data.toList fs)
          rw [hgv] at cg2 ⊢
          have c1 := Lib.hid (print_walk fs B d w6 (HF.out.below HB6.out) (HD.out.below HB6.out) (by omega))
          have c2 := Lib.hid (fun W h => rprint_walk fs B d W h (by omega))
          have hxx : (gx.toList == gx.toList) = true := by simp
          clear hbn cg hgv HB
          go_wp2_with fail
          refine cg2.out.mono ?_
          rintro _ w7 ⟨rfl, rfl⟩
          go_wp2_with fail
          refine c1.out.mono ?_
          rintro _ w8 ⟨rfl, hbn⟩
          have HB8 := Lib.hid (below_next HB6.out hbn)
          clear hbn c1 cg2
          go_wp2_with fail
          refine (c2.out w8 (HF.out.below HB8.out)).mono ?_
          rintro _ w9 ⟨rfl, hbn⟩
          have HB9 := Lib.hid (below_next HB8.out hbn)
          clear hbn c2
          go_wp2_with fail
          go_ret
          exact ⟨by simp, HB9.out⟩
end Go.Proofs.YtkdhnfifhaepaaaDoor

import Derived.Test.YtokgkifckgnabaaGreatDoorKit
set_option linter.unusedVariables false
set_option linter.unusedSimpArgs false
set_option maxRecDepth 20000
namespace Go.Proofs.YtokgkifckgnabaaGreatDoor
open Go.RowKit
/-- a tape: numbers, one behind the other, and the place -/
def TapeAt (w : World) (g : Nat) (zs : List Int) (at_ : Nat) : Prop :=
  at_ ≤ zs.length ∧ zs.length ≤ 9223372036854775807 ∧ (∀ z ∈ zs, -9223372036854775808 ≤ z ∧ z ≤ 9223372036854775807) ∧
  ∃ A c, zs.length ≤ c ∧ Blk w g 31 #[.slice A zs.length c, .int .i64 (at_ : Int)] ∧ Reads w g 1 A zs.length (zs.map (Value.int .i64))
theorem TapeAt.lt {w : World} {g : Nat} {zs : List Int} {k : Nat} (h : TapeAt w g zs k) : g < w.heap.size := by
  obtain ⟨_, _, _, A, c, _, hb, _⟩ := h
  exact hb.lt
theorem TapeAt.grown {w w' : World} {g : Nat} {zs : List Int} {k : Nat} {row : Option Nat} (h : TapeAt w g zs k) (hg : w.grownBy w' row) (hr : ∀ r, row = some r → g < r) : TapeAt w' g zs k := by
  have hl := h.lt
  obtain ⟨h1, h2, h3, A, c, hc, hb, hrd⟩ := h
  refine ⟨h1, h2, h3, A, c, hc, hb.grown hg (fun e => ?_), hrd.grown hg (by omega) (fun r e => ?_)⟩
  · have := hr g e.symm; omega
  · have := hr r e; omega
theorem TapeAt.below {w w' : World} {g : Nat} {zs : List Int} {k : Nat} (h : TapeAt w g zs k) (hb : Below (g + 1) w w') : TapeAt w' g zs k := by
  obtain ⟨h1, h2, h3, A, c, hc, hbk, hrd⟩ := h
  exact ⟨h1, h2, h3, A, c, hc, hbk.below hb (by omega), hrd.below (hb.mono (by omega))⟩
theorem TapeAt.drewN {w : World} {g : Nat} {zs : List Int} {k : Nat} (h : TapeAt w g zs k) (n : Nat) : TapeAt (w.drewN n) g zs k := h
theorem only_trans {a b c : World} {g : Nat} (h : a.grownBy b (some g)) (k : b.grownBy c (some g)) : a.grownBy c (some g) :=
  ⟨k.os.trans h.os, k.tape.trans h.tape, k.output.trans h.output, Nat.le_trans h.size k.size, fun i hi hne => (k.block i (Nat.lt_of_lt_of_le hi h.size) hne).trans (h.block i hi hne)⟩
theorem only_refl (a : World) (row : Option Nat) : a.grownBy a row := ⟨rfl, rfl, rfl, Nat.le_refl _, fun _ _ _ => rfl⟩
theorem TapeAt.step {w : World} {g : Nat} {zs : List Int} {k : Nat} (h : TapeAt w g zs k) (hlt : k < zs.length) : TapeAt (w.setCell ⟨g, 1, none⟩ (.int .i64 ((k : Int) + 1))) g zs (k + 1) := by
  obtain ⟨h1, h2, h3, A, c, hc, hb, hr⟩ := h
  refine ⟨by omega, h2, h3, A, c, hc, ?_, hr.setCell (Nat.le_refl _) _⟩
  have := hb.set_ 1 (.int .i64 ((k : Int) + 1))
  simpa using this
theorem reads_row (w : World) (e : TypeId) (us : List Value) : Reads (w.alloc (.cells us.toArray e)) (w.heap.size + 1) 1 (some ⟨w.heap.size, 0, none⟩) us.length us := by
  obtain ⟨h1, h2⟩ := reads_new w e us
  refine ⟨by simp, fun _ => ?_⟩
  obtain ⟨ad, e1, e2, e3⟩ := h2 (by omega)
  exact ⟨ad, e1, e2, e3⟩
def nextR (zs : List Int) (k : Nat) (n : Int) : Int := if k < zs.length ∧ 1 ≤ n then zs.getD k 0 % n else 0
def nextA (zs : List Int) (k : Nat) (n : Int) : Nat := if k < zs.length ∧ 1 ≤ n then k + 1 else k
theorem nextR_pos (zs : List Int) (k : Nat) (n : Int) (h : 1 ≤ n) : 0 ≤ nextR zs k n ∧ nextR zs k n < n := by
  unfold nextR
  split
  · exact ⟨Int.emod_nonneg _ (by omega), Int.emod_lt_of_pos _ (by omega)⟩
  · omega
theorem within1_walk (z n : Int) (w : World) (hn : 1 ≤ n) (hn2 : n ≤ 9223372036854775807) (hz : -9223372036854775808 ≤ z ∧ z ≤ 9223372036854775807) :
    Calls Tryz.prog 41 #[.int .i64 z, .int .i64 n] w fun e w' => e = .returned (.int .i64 (z % n)) ∧ w = w' := by
  have h0 := Int.emod_nonneg z (show n ≠ 0 by omega)
  have h1 := Int.emod_lt_of_pos z (show 0 < n by omega)
  obtain ⟨hz1, hz2⟩ := hz
  by_cases h : 0 ≤ z
  · go_enter Tryz.func41, Tryz.ntmps41
    go_wp2_with fail
    go_ret
    exact ⟨rfl, rfl⟩
  · obtain ⟨r, er⟩ : ∃ r, z.tmod n = r := ⟨_, rfl⟩
    have hr : r = z % n ∧ r = 0 ∨ r = z % n - n ∧ r < 0 := by
      rw [← er, Int.tmod_eq_emod]
      by_cases hd : n ∣ z
      · left
        have := Int.emod_eq_zero_of_dvd hd
        simp [hd]; omega
      · right
        simp only [hd, or_false, h, if_false]
        omega
    rcases hr with ⟨e1, e2⟩ | ⟨e1, e2⟩
    · have E := Lib.hid e1
      have hr0 : ¬ r < 0 := by omega
      have hz0 : z % n = 0 := by omega
      have hr0' : r = 0 := e2
      subst hr0'
      have HZ := Lib.hid hz0
      clear e1 hz0 h0 h1 e2
      go_enter Tryz.func41, Tryz.ntmps41
      go_wp2_with fail
      go_ret
      exact ⟨by rw [HZ.out]; rfl, rfl⟩
    · have E : Hid (r + n = z % n) := by show _ = _; omega
      have hr1 : -n ≤ r := by omega
      clear e1 h0 h1
      go_enter Tryz.func41, Tryz.ntmps41
      go_wp2_with fail
      go_ret
      exact ⟨by rw [← E.out]; rfl, rfl⟩
theorem more_walk (zs : List Int) (g k : Nat) (w : World) (ht : TapeAt w g zs k) :
    Calls Tryz.prog 27 #[.pointer (some ⟨g, 0, none⟩)] w fun e w' => e = .returned (.bool (decide (k < zs.length))) ∧ ∃ n, w' = w.drewN n := by
  obtain ⟨h1, h2, h3, A, c, hc, hb, hr⟩ := ht
  have c0 := hb.cell 0
  have c1 := hb.cell 1
  clear hr h3 hb
  simp at c0 c1
  by_cases hlt : k < zs.length
  · have hd : decide (k < zs.length) = true := by simpa using hlt
    go_enter Tryz.func27, Tryz.ntmps27
    go_wp2_with fail
    go_quiet (fail)
    go_wp2_with fail
    go_ret
    exact ⟨by first | rw [hd]; rfl | rfl, _, rfl⟩
  · have hd : decide (k < zs.length) = false := by simpa using hlt
    go_enter Tryz.func27, Tryz.ntmps27
    go_wp2_with fail
    go_quiet (fail)
    go_wp2_with fail
    go_ret
    exact ⟨by first | rw [hd]; rfl | rfl, _, rfl⟩
set_option maxHeartbeats 1000000 in
set_option maxRecDepth 100000 in
theorem next_walk (zs : List Int) (g k : Nat) (n : Int) (w : World) (ht : TapeAt w g zs k) (hn : -9223372036854775808 ≤ n ∧ n ≤ 9223372036854775807) :
    Calls Tryz.prog 21 #[.pointer (some ⟨g, 0, none⟩), .int .i64 n] w fun e w' => e = .returned (.int .i64 (nextR zs k n)) ∧ TapeAt w' g zs (nextA zs k n) ∧ w.grownBy w' (some g) ∧ w'.heap.size = w.heap.size := by
  obtain ⟨hn1, hn2⟩ := hn
  have cm := Lib.hid (more_walk zs g k w ht)
  by_cases hlt : k < zs.length
  · rw [show decide (k < zs.length) = true by simpa using hlt] at cm
    by_cases h1 : 1 ≤ n
    · have hv : Hid (nextR zs k n = zs.getD k 0 % n) := by show _ = _; rw [nextR, if_pos ⟨hlt, h1⟩]
      have hv2 : Hid (nextA zs k n = k + 1) := by show _ = _; rw [nextA, if_pos ⟨hlt, h1⟩]
      have hlt1 : ¬ n < 1 := by omega
      have HT := Lib.hid ht
      obtain ⟨t1, t2, t3, A, c, hc, hb, hr⟩ := ht
      obtain ⟨ad, u, rfl, had, hu, hcu⟩ := hr.at_ hlt
      have hu2 : u = .int .i64 (zs.getD k 0) := by
        rw [List.getElem?_map, List.getElem?_eq_getElem hlt] at hu
        simp at hu
        rw [← hu]; simp [hlt]
      have hz := t3 (zs.getD k 0) (by simp [hlt])
      have hex : ∃ z, Hid (zs.getD k 0 = z) ∧ u = .int .i64 z ∧ -9223372036854775808 ≤ z ∧ z ≤ 9223372036854775807 := ⟨_, rfl, hu2, hz⟩
      obtain ⟨z, hzz, rfl, hz1, hz2⟩ := hex
      have d2 : ∀ u, (w.setCell ⟨g, 1, none⟩ u).cell? (ad.add k) = some (.int .i64 z) := fun u => by
        rw [World.cell?_setCell_other w _ _ u (fun e => by have := block_of_add ad k; rw [← e] at this; simp at this; omega)]; exact hcu
      have c0 := hb.cell 0
      have c1 := hb.cell 1
      have f1 := hb.frozen 1
      simp at c0 c1
      have d0 : ∀ u, (w.setCell ⟨g, 1, none⟩ u).cell? ⟨g, 0, none⟩ = some (.slice (some ad) zs.length c) := fun u => by
        rw [World.cell?_setCell_other w _ _ u (fun e => by simp at e)]; exact c0
      have HR := Lib.hid hr
      have HB := Lib.hid hb
      have hs1 := Lib.hid (show IntKind.i64.wrap (k : Int) = k from IntWalk.i64_in _ (by omega))
      have cw := Lib.hid (within1_walk z n)
      clear hu2 hu hcu hz hr hb
      have T3 := Lib.hid t3
      clear t3
      have D0 := Lib.hid d0
      have D2 := Lib.hid d2
      clear d0 d2
      go_enter Tryz.func21, Tryz.ntmps21
      go_wp2_with fail
      refine (cm.out).mono ?_
      rintro _ w1 ⟨rfl, q, rfl⟩
      go_wp2_with fail
      have d2 : ((w.drewN q).setCell ⟨g, 1, none⟩ (.int .i64 ((k : Int) + 1))).cell? (ad.add k) = some (.int .i64 z) := D2.out _
      have hs := hs1.out
      go_quiet ((go_at_call 41; refine (cw.out _ h1 hn2 ⟨hz1, hz2⟩).mono ?_; rintro e w9 ⟨rfl, rfl⟩; exact ⟨rfl, _, rfl⟩))
      go_wp2_with fail
      go_ret
      refine ⟨by rw [hv.out, hzz.out]; rfl, ?_, only_drewN (only_setCell (only_drewN (only_refl _ _) _) (.inl rfl) _) _, ?_⟩
      · rw [hv2.out]; exact (HT.out.step hlt)
      · simp [World.setCell]
    · have hv : Hid (nextR zs k n = 0) := by show _ = _; rw [nextR, if_neg (fun h => h1 h.2)]
      have hv2 : Hid (nextA zs k n = k) := by show _ = _; rw [nextA, if_neg (fun h => h1 h.2)]
      go_enter Tryz.func21, Tryz.ntmps21
      go_wp2_with fail
      refine (cm.out).mono ?_
      rintro _ w1 ⟨rfl, q, rfl⟩
      go_wp2_with fail
      go_ret
      exact ⟨by rw [hv.out]; rfl, by rw [hv2.out]; exact ht, only_drewN (only_refl _ _) _, rfl⟩
  · rw [show decide (k < zs.length) = false by simpa using hlt] at cm
    have hv : Hid (nextR zs k n = 0) := by show _ = _; rw [nextR, if_neg (fun h => hlt h.1)]
    have hv2 : Hid (nextA zs k n = k) := by show _ = _; rw [nextA, if_neg (fun h => hlt h.1)]
    go_enter Tryz.func21, Tryz.ntmps21
    go_wp2_with fail
    refine (cm.out).mono ?_
    rintro _ w1 ⟨rfl, q, rfl⟩
    go_wp2_with fail
    go_ret
    exact ⟨by rw [hv.out]; rfl, by rw [hv2.out]; exact ht, only_drewN (only_refl _ _) _, rfl⟩
set_option maxHeartbeats 1000000 in
theorem pick_walk (zs : List Int) (g k : Nat) (A : Option Addr) (c B : Nat) (ss : List ByteArray) (h0 : 0 < ss.length) (hl : ss.length ≤ 1000000) (hc : ss.length ≤ c) (w : World) (ht : TapeAt w g zs k)
    (hr : Reads w B 1 A ss.length (ss.map Value.string)) (hB : B ≤ w.heap.size) (hne : ∀ p, A = some p → p.block ≠ g) :
    Calls Tryz.prog 25 #[.pointer (some ⟨g, 0, none⟩), .slice A ss.length c] w fun e w' => e = .returned (.string (ss.getD (nextR zs k ss.length).toNat ByteArray.empty)) ∧ TapeAt w' g zs (nextA zs k ss.length) ∧ w.grownBy w' (some g) ∧ w'.heap.size = w.heap.size := by
  have cn := Lib.hid (next_walk zs g k ss.length w ht (by omega))
  have hp := nextR_pos zs k ss.length (by omega)
  obtain ⟨r, er⟩ : ∃ r : Nat, nextR zs k ss.length = r := ⟨(nextR zs k ss.length).toNat, by omega⟩
  rw [er] at cn hp ⊢
  have hrl : r < ss.length := by omega
  obtain ⟨ad, u, rfl, had, hu, hcu⟩ := hr.at_ hrl
  have hne1 := hne ad rfl
  obtain rfl : u = .string (ss.getD r ByteArray.empty) := by
    rw [List.getElem?_map, List.getElem?_eq_getElem hrl] at hu
    simp at hu
    rw [← hu]; simp [hrl]
  obtain ⟨x, hx⟩ : ∃ x, ss.getD r ByteArray.empty = x := ⟨_, rfl⟩
  rw [Int.toNat_natCast, hx]
  rw [hx] at hcu
  have HC := Lib.hid hcu
  have hz : ((ss.length : Int) == 0) = false := by rw [beq_eq_false_iff_ne]; omega
  have HB := Lib.hid (show ad.block < w.heap.size by omega)
  clear hp er hr hne hu hx hcu
  go_enter Tryz.func25, Tryz.ntmps25
  go_wp2_with fail
  refine cn.out.mono ?_
  rintro _ w1 ⟨rfl, ht1, hg1, hs1⟩
  have hcell : w1.cell? (ad.add r) = some (.string x) := by
    rw [← HC.out]
    exact World.cell?_of_block (hg1.block _ (by rw [block_of_add]; exact HB.out) (fun e => by rw [block_of_add] at e; injection e with e; exact hne1 e))
  have HS := Lib.hid hs1
  clear hs1
  go_wp2_with fail
  go_ret
  exact ⟨rfl, ht1, hg1, HS.out⟩
end Go.Proofs.YtokgkifckgnabaaGreatDoor

/- Signs, the tape, percent writing. No condition of its own. -/
import Derived.Test.YtekbdfnbnpmclaaGreatDoorKit
import Derived.Lib.ConvBytes
import Derived.Deep.RegionHeld3
set_option linter.unusedVariables false
set_option linter.unusedSimpArgs false
set_option maxRecDepth 20000
namespace Go.Proofs.YtekbdfnbnpmclaaGreatDoor
section
open Go.RowKit
def greatB (c : Nat) : Bool := decide (65 ≤ c) && decide (c ≤ 90)
def smallB (c : Nat) : Bool := decide (97 ≤ c) && decide (c ≤ 122)
def digitB (c : Nat) : Bool := decide (48 ≤ c) && decide (c ≤ 57)
def sixtyB (c : Nat) : Bool := greatB c || smallB c || digitB c || decide (c = 45) || decide (c = 95)
def plainB (c : Nat) : Bool := sixtyB c || decide (c = 46) || decide (c = 126)
theorem great_walk (c : Nat) (w : World) : Calls Tryz.prog 59 #[.int .u8 (c : Int)] w fun e w' => e = .returned (.bool (greatB c)) ∧ w = w' := by
  have e : Hid (greatB c = (decide (65 ≤ c) && decide (c ≤ 90))) := rfl
  by_cases h1 : 65 ≤ c <;> by_cases h2 : c ≤ 90
  all_goals
    go_enter Tryz.func59, Tryz.ntmps59
    go_wp2_with fail
    all_goals
      go_ret
      refine ⟨?_, rfl⟩
      rw [e.out]
      first | (simp [h1, h2]; done) | (simp [h1, h2]; omega)
theorem small_walk (c : Nat) (w : World) : Calls Tryz.prog 60 #[.int .u8 (c : Int)] w fun e w' => e = .returned (.bool (smallB c)) ∧ w = w' := by
  have e : Hid (smallB c = (decide (97 ≤ c) && decide (c ≤ 122))) := rfl
  by_cases h1 : 97 ≤ c <;> by_cases h2 : c ≤ 122
  all_goals
    go_enter Tryz.func60, Tryz.ntmps60
    go_wp2_with fail
    all_goals
      go_ret
      refine ⟨?_, rfl⟩
      rw [e.out]
      first | (simp [h1, h2]; done) | (simp [h1, h2]; omega)
theorem digit_walk (c : Nat) (w : World) : Calls Tryz.prog 61 #[.int .u8 (c : Int)] w fun e w' => e = .returned (.bool (digitB c)) ∧ w = w' := by
  have e : Hid (digitB c = (decide (48 ≤ c) && decide (c ≤ 57))) := rfl
  by_cases h1 : 48 ≤ c <;> by_cases h2 : c ≤ 57
  all_goals
    go_enter Tryz.func61, Tryz.ntmps61
    go_wp2_with fail
    all_goals
      go_ret
      refine ⟨?_, rfl⟩
      rw [e.out]
      first | (simp [h1, h2]; done) | (simp [h1, h2]; omega)
theorem beq_lit (c k : Nat) : ((c : Int) == (k : Int)) = decide (c = k) := by
  by_cases h : c = k
  · subst h; simp
  · rw [beq_eq_false_iff_ne.2 (by omega)]; simp [h]
set_option maxHeartbeats 2000000 in
theorem sixty_walk (c : Nat) (w : World) : Calls Tryz.prog 50 #[.int .u8 (c : Int)] w fun e w' => e = .returned (.bool (sixtyB c)) ∧ w = w' := by
  have e : Hid (sixtyB c = (greatB c || smallB c || digitB c || decide (c = 45) || decide (c = 95))) := rfl
  have c1 := Lib.hid (great_walk c)
  have c2 := Lib.hid (small_walk c)
  have c3 := Lib.hid (digit_walk c)
  cases h1 : greatB c <;> rw [h1] at c1 e
  · cases h2 : smallB c <;> rw [h2] at c2 e
    · cases h3 : digitB c <;> rw [h3] at c3 e
      · have b4 : ((c : Int) == 45) = decide (c = 45) := beq_lit c 45
        have b5 : ((c : Int) == 95) = decide (c = 95) := beq_lit c 95
        cases h4 : decide (c = 45) <;> cases h5 : decide (c = 95) <;> rw [h4] at b4 e <;> rw [h5] at b5 e <;> clear h4 h5
        all_goals
          go_enter Tryz.func50, Tryz.ntmps50
          go_wp2_with fail
          refine (c1.out _).mono ?_
          rintro _ w1 ⟨rfl, rfl⟩
          go_wp2_with fail
          refine (c2.out _).mono ?_
          rintro _ w1 ⟨rfl, rfl⟩
          go_wp2_with fail
          refine (c3.out _).mono ?_
          rintro _ w1 ⟨rfl, rfl⟩
          go_wp2_with fail
          all_goals
            go_ret
            refine ⟨?_, rfl⟩
            rw [e.out]
            first | rfl | simp
      · go_enter Tryz.func50, Tryz.ntmps50
        go_wp2_with fail
        refine (c1.out _).mono ?_
        rintro _ w1 ⟨rfl, rfl⟩
        go_wp2_with fail
        refine (c2.out _).mono ?_
        rintro _ w1 ⟨rfl, rfl⟩
        go_wp2_with fail
        refine (c3.out _).mono ?_
        rintro _ w1 ⟨rfl, rfl⟩
        go_wp2_with fail
        go_ret
        exact ⟨by rw [e.out]; rfl, rfl⟩
    · go_enter Tryz.func50, Tryz.ntmps50
      go_wp2_with fail
      refine (c1.out _).mono ?_
      rintro _ w1 ⟨rfl, rfl⟩
      go_wp2_with fail
      refine (c2.out _).mono ?_
      rintro _ w1 ⟨rfl, rfl⟩
      go_wp2_with fail
      go_ret
      exact ⟨by rw [e.out]; simp, rfl⟩
  · go_enter Tryz.func50, Tryz.ntmps50
    go_wp2_with fail
    refine (c1.out _).mono ?_
    rintro _ w1 ⟨rfl, rfl⟩
    go_wp2_with fail
    go_ret
    exact ⟨by rw [e.out]; simp, rfl⟩
theorem plain_walk (c : Nat) (w : World) : Calls Tryz.prog 40 #[.int .u8 (c : Int)] w fun e w' => e = .returned (.bool (plainB c)) ∧ w = w' := by
  have e : Hid (plainB c = (sixtyB c || decide (c = 46) || decide (c = 126))) := rfl
  have c1 := Lib.hid (sixty_walk c)
  cases h1 : sixtyB c <;> rw [h1] at c1 e
  · have b4 : ((c : Int) == 46) = decide (c = 46) := beq_lit c 46
    have b5 : ((c : Int) == 126) = decide (c = 126) := beq_lit c 126
    cases h4 : decide (c = 46) <;> cases h5 : decide (c = 126) <;> rw [h4] at b4 e <;> rw [h5] at b5 e <;> clear h4 h5
    all_goals
      go_enter Tryz.func40, Tryz.ntmps40
      go_wp2_with fail
      refine (c1.out _).mono ?_
      rintro _ w1 ⟨rfl, rfl⟩
      go_wp2_with fail
      all_goals
        go_ret
        refine ⟨?_, rfl⟩
        rw [e.out]
        first | rfl | simp
  · go_enter Tryz.func40, Tryz.ntmps40
    go_wp2_with fail
    refine (c1.out _).mono ?_
    rintro _ w1 ⟨rfl, rfl⟩
    go_wp2_with fail
    go_ret
    exact ⟨by rw [e.out]; simp, rfl⟩
/-- a function value that tells of a byte -/
theorem str_at {s : ByteArray} {l : List UInt8} (hs : s.data.toList = l) {k : Nat} (hk : k < s.size) : (s[k]'hk).toNat = (l.getD k 0).toNat := by
  subst hs
  rw [List.getD_eq_getElem?_getD, List.getElem?_eq_getElem (by simpa using hk)]
  rfl
end
section
open Go.RowKit
/-- a tape: numbers, one behind the other, and the place -/
def TapeAt (w : World) (g : Nat) (zs : List Int) (at_ : Nat) : Prop :=
  at_ ≤ zs.length ∧ zs.length ≤ 9223372036854775807 ∧ (∀ z ∈ zs, -9223372036854775808 ≤ z ∧ z ≤ 9223372036854775807) ∧
  ∃ A c, zs.length ≤ c ∧ Blk w g 41 #[.slice A zs.length c, .int .i64 (at_ : Int)] ∧ Reads w g 1 A zs.length (zs.map (Value.int .i64))
theorem TapeAt.lt {w : World} {g : Nat} {zs : List Int} {k : Nat} (h : TapeAt w g zs k) : g < w.heap.size := by
  obtain ⟨_, _, _, A, c, _, hb, _⟩ := h
  exact hb.lt
theorem TapeAt.grown {w w' : World} {g : Nat} {zs : List Int} {k : Nat} {row : Option Nat} (h : TapeAt w g zs k) (hg : w.grownBy w' row) (hr : ∀ r, row = some r → g < r) : TapeAt w' g zs k := by
  have hl := h.lt
  obtain ⟨h1, h2, h3, A, c, hc, hb, hrd⟩ := h
  refine ⟨h1, h2, h3, A, c, hc, hb.grown hg (fun e => ?_), hrd.grown hg (by omega) (fun r e => ?_)⟩
  · have := hr g e.symm; omega
  · have := hr r e; omega
theorem TapeAt.below {w w' : World} {g : Nat} {zs : List Int} {k : Nat} (h : TapeAt w g zs k) (hb : Below (g + 1) w w') : TapeAt w' g zs k := by
  obtain ⟨h1, h2, h3, A, c, hc, hbk, hrd⟩ := h
  exact ⟨h1, h2, h3, A, c, hc, hbk.below hb (by omega), hrd.below (hb.mono (by omega))⟩
theorem TapeAt.drewN {w : World} {g : Nat} {zs : List Int} {k : Nat} (h : TapeAt w g zs k) (n : Nat) : TapeAt (w.drewN n) g zs k := h
theorem only_trans {a b c : World} {g : Nat} (h : a.grownBy b (some g)) (k : b.grownBy c (some g)) : a.grownBy c (some g) :=
  ⟨k.os.trans h.os, k.tape.trans h.tape, k.output.trans h.output, Nat.le_trans h.size k.size, fun i hi hne => (k.block i (Nat.lt_of_lt_of_le hi h.size) hne).trans (h.block i hi hne)⟩
theorem only_refl (a : World) (row : Option Nat) : a.grownBy a row := ⟨rfl, rfl, rfl, Nat.le_refl _, fun _ _ _ => rfl⟩
theorem TapeAt.step {w : World} {g : Nat} {zs : List Int} {k : Nat} (h : TapeAt w g zs k) (hlt : k < zs.length) : TapeAt (w.setCell ⟨g, 1, none⟩ (.int .i64 ((k : Int) + 1))) g zs (k + 1) := by
  obtain ⟨h1, h2, h3, A, c, hc, hb, hr⟩ := h
  refine ⟨by omega, h2, h3, A, c, hc, ?_, hr.setCell (Nat.le_refl _) _⟩
  have := hb.set_ 1 (.int .i64 ((k : Int) + 1))
  simpa using this
theorem reads_row (w : World) (e : TypeId) (us : List Value) : Reads (w.alloc (.cells us.toArray e)) (w.heap.size + 1) 1 (some ⟨w.heap.size, 0, none⟩) us.length us := by
  obtain ⟨h1, h2⟩ := reads_new w e us
  refine ⟨by simp, fun _ => ?_⟩
  obtain ⟨ad, e1, e2, e3⟩ := h2 (by omega)
  exact ⟨ad, e1, e2, e3⟩
def nextR (zs : List Int) (k : Nat) (n : Int) : Int := if k < zs.length ∧ 1 ≤ n then zs.getD k 0 % n else 0
def nextA (zs : List Int) (k : Nat) (n : Int) : Nat := if k < zs.length ∧ 1 ≤ n then k + 1 else k
theorem nextR_pos (zs : List Int) (k : Nat) (n : Int) (h : 1 ≤ n) : 0 ≤ nextR zs k n ∧ nextR zs k n < n := by
  unfold nextR
  split
  · exact ⟨Int.emod_nonneg _ (by omega), Int.emod_lt_of_pos _ (by omega)⟩
  · omega
theorem within1_walk (z n : Int) (w : World) (hn : 1 ≤ n) (hn2 : n ≤ 9223372036854775807) (hz : -9223372036854775808 ≤ z ∧ z ≤ 9223372036854775807) :
    Calls Tryz.prog 36 #[.int .i64 z, .int .i64 n] w fun e w' => e = .returned (.int .i64 (z % n)) ∧ w = w' := by
  have h0 := Int.emod_nonneg z (show n ≠ 0 by omega)
  have h1 := Int.emod_lt_of_pos z (show 0 < n by omega)
  obtain ⟨hz1, hz2⟩ := hz
  by_cases h : 0 ≤ z
  · go_enter Tryz.func36, Tryz.ntmps36
    go_wp2_with fail
    go_ret
    exact ⟨rfl, rfl⟩
  · obtain ⟨r, er⟩ : ∃ r, z.tmod n = r := ⟨_, rfl⟩
    have hr : r = z % n ∧ r = 0 ∨ r = z % n - n ∧ r < 0 := by
      rw [← er, Int.tmod_eq_emod]
      by_cases hd : n ∣ z
      · left
        have := Int.emod_eq_zero_of_dvd hd
        simp [hd]; omega
      · right
        simp only [hd, or_false, h, if_false]
        omega
    rcases hr with ⟨e1, e2⟩ | ⟨e1, e2⟩
    · have E := Lib.hid e1
      have hr0 : ¬ r < 0 := by omega
      have hz0 : z % n = 0 := by omega
      have hr0' : r = 0 := e2
      subst hr0'
      have HZ := Lib.hid hz0
      clear e1 hz0 h0 h1 e2
      go_enter Tryz.func36, Tryz.ntmps36
      go_wp2_with fail
      go_ret
      exact ⟨by rw [HZ.out]; rfl, rfl⟩
    · have E : Hid (r + n = z % n) := by show _ = _; omega
      have hr1 : -n ≤ r := by omega
      clear e1 h0 h1
      go_enter Tryz.func36, Tryz.ntmps36
      go_wp2_with fail
      go_ret
      exact ⟨by rw [← E.out]; rfl, rfl⟩
theorem more_walk (zs : List Int) (g k : Nat) (w : World) (ht : TapeAt w g zs k) :
    Calls Tryz.prog 13 #[.pointer (some ⟨g, 0, none⟩)] w fun e w' => e = .returned (.bool (decide (k < zs.length))) ∧ ∃ n, w' = w.drewN n := by
  obtain ⟨h1, h2, h3, A, c, hc, hb, hr⟩ := ht
  have c0 := hb.cell 0
  have c1 := hb.cell 1
  clear hr h3 hb
  simp at c0 c1
  by_cases hlt : k < zs.length
  · have hd : decide (k < zs.length) = true := by simpa using hlt
    go_enter Tryz.func13, Tryz.ntmps13
    go_wp2_with fail
    go_quiet (fail)
    go_wp2_with fail
    go_ret
    exact ⟨by first | rw [hd]; rfl | rfl, _, rfl⟩
  · have hd : decide (k < zs.length) = false := by simpa using hlt
    go_enter Tryz.func13, Tryz.ntmps13
    go_wp2_with fail
    go_quiet (fail)
    go_wp2_with fail
    go_ret
    exact ⟨by first | rw [hd]; rfl | rfl, _, rfl⟩
set_option maxHeartbeats 1000000 in
set_option maxRecDepth 100000 in
theorem next_walk (zs : List Int) (g k : Nat) (n : Int) (w : World) (ht : TapeAt w g zs k) (hn : -9223372036854775808 ≤ n ∧ n ≤ 9223372036854775807) :
    Calls Tryz.prog 25 #[.pointer (some ⟨g, 0, none⟩), .int .i64 n] w fun e w' => e = .returned (.int .i64 (nextR zs k n)) ∧ TapeAt w' g zs (nextA zs k n) ∧ w.grownBy w' (some g) ∧ w'.heap.size = w.heap.size := by
  obtain ⟨hn1, hn2⟩ := hn
  have cm := Lib.hid (more_walk zs g k w ht)
  by_cases hlt : k < zs.length
  · rw [show decide (k < zs.length) = true by simpa using hlt] at cm
    by_cases h1 : 1 ≤ n
    · have hv : Hid (nextR zs k n = zs.getD k 0 % n) := by show _ = _; rw [nextR, if_pos ⟨hlt, h1⟩]
      have hv2 : Hid (nextA zs k n = k + 1) := by show _ = _; rw [nextA, if_pos ⟨hlt, h1⟩]
      have hlt1 : ¬ n < 1 := by omega
      have HT := Lib.hid ht
      obtain ⟨t1, t2, t3, A, c, hc, hb, hr⟩ := ht
      obtain ⟨ad, u, rfl, had, hu, hcu⟩ := hr.at_ hlt
      have hu2 : u = .int .i64 (zs.getD k 0) := by
        rw [List.getElem?_map, List.getElem?_eq_getElem hlt] at hu
        simp at hu
        rw [← hu]; simp [hlt]
      have hz := t3 (zs.getD k 0) (by simp [hlt])
      have hex : ∃ z, Hid (zs.getD k 0 = z) ∧ u = .int .i64 z ∧ -9223372036854775808 ≤ z ∧ z ≤ 9223372036854775807 := ⟨_, rfl, hu2, hz⟩
      obtain ⟨z, hzz, rfl, hz1, hz2⟩ := hex
      have d2 : ∀ u, (w.setCell ⟨g, 1, none⟩ u).cell? (ad.add k) = some (.int .i64 z) := fun u => by
        rw [World.cell?_setCell_other w _ _ u (fun e => by have := block_of_add ad k; rw [← e] at this; simp at this; omega)]; exact hcu
      have c0 := hb.cell 0
      have c1 := hb.cell 1
      have f1 := hb.frozen 1
      simp at c0 c1
      have d0 : ∀ u, (w.setCell ⟨g, 1, none⟩ u).cell? ⟨g, 0, none⟩ = some (.slice (some ad) zs.length c) := fun u => by
        rw [World.cell?_setCell_other w _ _ u (fun e => by simp at e)]; exact c0
      have HR := Lib.hid hr
      have HB := Lib.hid hb
      have hs1 := Lib.hid (show IntKind.i64.wrap (k : Int) = k from IntWalk.i64_in _ (by omega))
      have cw := Lib.hid (within1_walk z n)
      clear hu2 hu hcu hz hr hb
      have T3 := Lib.hid t3
      clear t3
      have D0 := Lib.hid d0
      have D2 := Lib.hid d2
      clear d0 d2
      go_enter Tryz.func25, Tryz.ntmps25
      go_wp2_with fail
      refine (cm.out).mono ?_
      rintro _ w1 ⟨rfl, q, rfl⟩
      go_wp2_with fail
      have d2 : ((w.drewN q).setCell ⟨g, 1, none⟩ (.int .i64 ((k : Int) + 1))).cell? (ad.add k) = some (.int .i64 z) := D2.out _
      have hs := hs1.out
      go_quiet ((go_at_call 36; refine (cw.out _ h1 hn2 ⟨hz1, hz2⟩).mono ?_; rintro e w9 ⟨rfl, rfl⟩; exact ⟨rfl, _, rfl⟩))
      go_wp2_with fail
      go_ret
      refine ⟨by rw [hv.out, hzz.out]; rfl, ?_, only_drewN (only_setCell (only_drewN (only_refl _ _) _) (.inl rfl) _) _, ?_⟩
      · rw [hv2.out]; exact (HT.out.step hlt)
      · simp [World.setCell]
    · have hv : Hid (nextR zs k n = 0) := by show _ = _; rw [nextR, if_neg (fun h => h1 h.2)]
      have hv2 : Hid (nextA zs k n = k) := by show _ = _; rw [nextA, if_neg (fun h => h1 h.2)]
      go_enter Tryz.func25, Tryz.ntmps25
      go_wp2_with fail
      refine (cm.out).mono ?_
      rintro _ w1 ⟨rfl, q, rfl⟩
      go_wp2_with fail
      go_ret
      exact ⟨by rw [hv.out]; rfl, by rw [hv2.out]; exact ht, only_drewN (only_refl _ _) _, rfl⟩
  · rw [show decide (k < zs.length) = false by simpa using hlt] at cm
    have hv : Hid (nextR zs k n = 0) := by show _ = _; rw [nextR, if_neg (fun h => hlt h.1)]
    have hv2 : Hid (nextA zs k n = k) := by show _ = _; rw [nextA, if_neg (fun h => hlt h.1)]
    go_enter Tryz.func25, Tryz.ntmps25
    go_wp2_with fail
    refine (cm.out).mono ?_
    rintro _ w1 ⟨rfl, q, rfl⟩
    go_wp2_with fail
    go_ret
    exact ⟨by rw [hv.out]; rfl, by rw [hv2.out]; exact ht, only_drewN (only_refl _ _) _, rfl⟩
set_option maxHeartbeats 1000000 in
theorem pick_walk (zs : List Int) (g k : Nat) (A : Option Addr) (c B : Nat) (ss : List ByteArray) (h0 : 0 < ss.length) (hl : ss.length ≤ 1000000) (hc : ss.length ≤ c) (w : World) (ht : TapeAt w g zs k)
    (hr : Reads w B 1 A ss.length (ss.map Value.string)) (hB : B ≤ w.heap.size) (hne : ∀ p, A = some p → p.block ≠ g) :
    Calls Tryz.prog 24 #[.pointer (some ⟨g, 0, none⟩), .slice A ss.length c] w fun e w' => e = .returned (.string (ss.getD (nextR zs k ss.length).toNat ByteArray.empty)) ∧ TapeAt w' g zs (nextA zs k ss.length) ∧ w.grownBy w' (some g) ∧ w'.heap.size = w.heap.size := by
  have cn := Lib.hid (next_walk zs g k ss.length w ht (by omega))
  have hp := nextR_pos zs k ss.length (by omega)
  obtain ⟨r, er⟩ : ∃ r : Nat, nextR zs k ss.length = r := ⟨(nextR zs k ss.length).toNat, by omega⟩
  rw [er] at cn hp ⊢
  have hrl : r < ss.length := by omega
  obtain ⟨ad, u, rfl, had, hu, hcu⟩ := hr.at_ hrl
  have hne1 := hne ad rfl
  obtain rfl : u = .string (ss.getD r ByteArray.empty) := by
    rw [List.getElem?_map, List.getElem?_eq_getElem hrl] at hu
    simp at hu
    rw [← hu]; simp [hrl]
  obtain ⟨x, hx⟩ : ∃ x, ss.getD r ByteArray.empty = x := ⟨_, rfl⟩
  rw [Int.toNat_natCast, hx]
  rw [hx] at hcu
  have HC := Lib.hid hcu
  have hz : ((ss.length : Int) == 0) = false := by rw [beq_eq_false_iff_ne]; omega
  have HB := Lib.hid (show ad.block < w.heap.size by omega)
  clear hp er hr hne hu hx hcu
  go_enter Tryz.func24, Tryz.ntmps24
  go_wp2_with fail
  refine cn.out.mono ?_
  rintro _ w1 ⟨rfl, ht1, hg1, hs1⟩
  have hcell : w1.cell? (ad.add r) = some (.string x) := by
    rw [← HC.out]
    exact World.cell?_of_block (hg1.block _ (by rw [block_of_add]; exact HB.out) (fun e => by rw [block_of_add] at e; injection e with e; exact hne1 e))
  have HS := Lib.hid hs1
  clear hs1
  go_wp2_with fail
  go_ret
  exact ⟨rfl, ht1, hg1, HS.out⟩
end
section
open Go.RowKit
/-- what a law is told of numbers that came in -/
def IntsIn (w : World) (A : Option Addr) (c : Nat) (zs : List Int) : Prop :=
  zs.length ≤ c ∧ zs.length ≤ 9223372036854775807 ∧ (∀ z ∈ zs, -9223372036854775808 ≤ z ∧ z ≤ 9223372036854775807) ∧ Reads w w.heap.size 1 A zs.length (zs.map (Value.int .i64))
theorem IntsIn.below {w w' : World} {A : Option Addr} {c : Nat} {zs : List Int} (h : IntsIn w A c zs) (hb : Below w.heap.size w w') : IntsIn w' A c zs :=
  ⟨h.1, h.2.1, h.2.2.1, (h.2.2.2.below hb).more hb.size⟩
theorem IsRow.intsIn {w : World} {a : Option Addr} {len cap : Nat} {zs : List Int} (h : IsRow .i64 w a len cap zs) : ∃ l : List Int, len = l.length ∧ IntsIn w a cap l := by
  obtain ⟨h1, h2, h3, h4⟩ := h.ints
  have hcap : cap ≤ 9223372036854775807 := by
    rcases h with ⟨_, _, rfl, _⟩ | ⟨x, _, _, hm, _⟩
    · omega
    · simpa [maxLen] using hm
  refine ⟨zs.take len, h3.symm, by omega, by omega, fun z hz => ?_, ?_⟩
  · have := h4 z hz
    simpa [Lit.wf, IntKind.min, IntKind.max, IntKind.signed, IntKind.bits] using this
  · rw [h3]; exact h1
theorem i64_wf {a : Int} (h : (Lit.int .i64 a).wf = true) : -9223372036854775808 ≤ a ∧ a ≤ 9223372036854775807 := by
  simpa [Lit.wf, IntKind.min, IntKind.max, IntKind.signed, IntKind.bits] using h
theorem u8_wf {a : Int} (h : (Lit.int .u8 a).wf = true) : 0 ≤ a ∧ a ≤ 255 := by
  simpa [Lit.wf, IntKind.min, IntKind.max, IntKind.signed, IntKind.bits] using h
end
section
open Go.RowKit
def letterB (c : Nat) : Bool := decide (65 ≤ c) && decide (c ≤ 90) || decide (97 ≤ c) && decide (c ≤ 122)
theorem rletter_walk (c : Nat) (w : World) : Calls Tryz.prog 42 #[.int .u8 (c : Int)] w fun e w' => e = .returned (.bool (letterB c)) ∧ w = w' := by
  have e : Hid (letterB c = (decide (65 ≤ c) && decide (c ≤ 90) || decide (97 ≤ c) && decide (c ≤ 122))) := rfl
  by_cases h1 : 65 ≤ c <;> by_cases h2 : c ≤ 90 <;> by_cases h3 : 97 ≤ c <;> by_cases h4 : c ≤ 122
  all_goals
    go_enter Tryz.func42, Tryz.ntmps42
    go_wp2_with fail
    all_goals
      go_ret
      refine ⟨?_, rfl⟩
      rw [e.out]
      first | (simp [h1, h2, h3, h4]; done) | (simp [h1, h2, h3, h4]; omega)
theorem rdigit_walk (c : Nat) (w : World) : Calls Tryz.prog 43 #[.int .u8 (c : Int)] w fun e w' => e = .returned (.bool (digitB c)) ∧ w = w' := by
  have e : Hid (digitB c = (decide (48 ≤ c) && decide (c ≤ 57))) := rfl
  by_cases h1 : 48 ≤ c <;> by_cases h2 : c ≤ 57
  all_goals
    go_enter Tryz.func43, Tryz.ntmps43
    go_wp2_with fail
    all_goals
      go_ret
      refine ⟨?_, rfl⟩
      rw [e.out]
      first | (simp [h1, h2]; done) | (simp [h1, h2]; omega)
theorem any_yes {l : List UInt8} {p : Nat → Bool} {k : Nat} (hk : k < l.length) (h : p (l.getD k 0).toNat = true) : (l.any fun b => p b.toNat) = true := by
  rw [List.any_eq_true]
  exact ⟨l[k], List.getElem_mem hk, by rw [List.getD_eq_getElem?_getD, List.getElem?_eq_getElem hk] at h; simpa using h⟩
theorem any_no {l : List UInt8} {p : Nat → Bool} (h : ∀ j, j < l.length → p (l.getD j 0).toNat = false) : (l.any fun b => p b.toNat) = false := by
  rw [List.any_eq_false]
  intro x hx
  obtain ⟨j, hj, he⟩ := List.getElem_of_mem hx
  have := h j hj
  rw [List.getD_eq_getElem?_getD, List.getElem?_eq_getElem hj, Option.getD_some, he] at this
  rw [this]; simp
theorem upto_one {l : List UInt8} {p : Nat → Bool} {t : Bool} {k b : Nat} (h : ∀ j, j < k → p (l.getD j 0).toNat = t) (hb : (l.getD k 0).toNat = b) (hp : p b = t) : ∀ j, j < k + 1 → p (l.getD j 0).toNat = t := by
  intro j hj
  rcases Nat.lt_or_ge j k with h' | h'
  · exact h j h'
  · rw [show j = k by omega, hb]; exact hp
set_option maxHeartbeats 400000 in
theorem rin_walk (c : Nat) (s : ByteArray) (l : List UInt8) (hs : s.data.toList = l) (w : World) (hm : s.size ≤ 1000000) :
    Calls Tryz.prog 44 #[.int .u8 (c : Int), .string s] w fun e w' => e = .returned (.bool (l.any fun b => b.toNat == c)) ∧ w = w' := by
  have hsz : l.length = s.size := by rw [← hs, Lib.size_eq]
  go_enter Tryz.func44, Tryz.ntmps44
  go_wp2_with fail
  go_loopw [5] (fun nv wr => ∃ k : Nat, k ≤ s.size ∧ nv = .int .i64 k ∧ Hid (∀ j, j < k → ((l.getD j 0).toNat == c) = false) ∧ w = wr) (fun nv _ => s.size - (intOf nv).toNat)
  case atStart => exact ⟨0, by omega, rfl, fun j hj => by omega, rfl⟩
  case round =>
    obtain ⟨k, hk, rfl, hp, rfl⟩ := hrel
    by_cases hlt : k < s.size
    · obtain ⟨b, eb, hb, hb2⟩ : ∃ b : Nat, (s[k]'hlt).toNat = b ∧ Hid ((l.getD k 0).toNat = b) ∧ b < 256 := ⟨_, str_at hs hlt, rfl, (l.getD k 0).toNat_lt⟩
      cases hpk : (b == c)
      · have hq : ((b : Int) == (c : Int)) = false := by rw [beq_eq_false_iff_ne] at hpk ⊢; omega
        have HN := Lib.hid (upto_one (p := (· == c)) hp.out hb.out hpk)
        clear hpk
        go_wp2_with fail
        exact ⟨⟨k + 1, by omega, by go_num, HN, trivial⟩, by simp [intOf]; omega⟩
      · have hq : ((b : Int) == (c : Int)) = true := by rw [beq_iff_eq] at hpk ⊢; omega
        have hv : Hid ((l.any fun b => b.toNat == c) = true) := any_yes (k := k) (p := (· == c)) (by omega) (by rw [hb.out]; exact hpk)
        clear hpk
        go_wp2_with fail
        go_ret
        exact ⟨by rw [hv.out]; rfl, rfl⟩
    · have hv : Hid ((l.any fun b => b.toNat == c) = false) := any_no (p := (· == c)) (fun j hj => hp.out j (by omega))
      go_wp2_with fail
      go_ret
      exact ⟨by rw [hv.out]; rfl, rfl⟩
theorem lits : Hid ((ByteArray.mk #[45, 46, 95, 126]).data.toList = [45, 46, 95, 126]) := rfl
def rplainB (c : Nat) : Bool := letterB c || digitB c || ([45, 46, 95, 126] : List UInt8).any fun b => b.toNat == c
theorem rplain_eq : ∀ c : Fin 256, rplainB c.val = plainB c.val := by decide +kernel
set_option maxHeartbeats 1000000 in
theorem rplain_walk (c : Nat) (w : World) : Calls Tryz.prog 32 #[.int .u8 (c : Int)] w fun e w' => e = .returned (.bool (rplainB c)) ∧ w = w' := by
  have e : Hid (rplainB c = (letterB c || digitB c || ([45, 46, 95, 126] : List UInt8).any fun b => b.toNat == c)) := rfl
  have c1 := Lib.hid (rletter_walk c)
  have c2 := Lib.hid (rdigit_walk c)
  have c3 := Lib.hid (fun w => rin_walk c ⟨#[45, 46, 95, 126]⟩ [45, 46, 95, 126] rfl w (by decide))
  cases h1 : letterB c <;> rw [h1] at c1 e
  · cases h2 : digitB c <;> rw [h2] at c2 e
    · cases h3 : (([45, 46, 95, 126] : List UInt8).any fun b => b.toNat == c) <;> rw [h3] at c3 e <;> clear h3
      all_goals
        go_enter Tryz.func32, Tryz.ntmps32
        go_wp2_with fail
        refine (c1.out _).mono ?_
        rintro _ w1 ⟨rfl, rfl⟩
        go_wp2_with fail
        refine (c2.out _).mono ?_
        rintro _ w1 ⟨rfl, rfl⟩
        go_wp2_with fail
        refine (c3.out _).mono ?_
        rintro _ w1 ⟨rfl, rfl⟩
        go_wp2_with fail
        go_ret
        exact ⟨by rw [e.out]; rfl, rfl⟩
    · go_enter Tryz.func32, Tryz.ntmps32
      go_wp2_with fail
      refine (c1.out _).mono ?_
      rintro _ w1 ⟨rfl, rfl⟩
      go_wp2_with fail
      refine (c2.out _).mono ?_
      rintro _ w1 ⟨rfl, rfl⟩
      go_wp2_with fail
      go_ret
      exact ⟨by rw [e.out]; simp, rfl⟩
  · go_enter Tryz.func32, Tryz.ntmps32
    go_wp2_with fail
    refine (c1.out _).mono ?_
    rintro _ w1 ⟨rfl, rfl⟩
    go_wp2_with fail
    go_ret
    exact ⟨by rw [e.out]; simp, rfl⟩
end
namespace Pc
open Go.Proofs.YtekbdfnbnpmclaaGreatDoor (plainB)
def hx (n : Nat) : Nat := if n < 10 then 48 + n else 55 + n
def dg (n : Nat) : Option Nat := if 48 ≤ n ∧ n ≤ 57 then some (n - 48) else if 65 ≤ n ∧ n ≤ 70 then some (n - 55) else none
def encB (form : Bool) (b : UInt8) : List UInt8 :=
  if form && b.toNat == 32 then [43] else if plainB b.toNat then [b] else [37, UInt8.ofNat (hx (b.toNat / 16)), UInt8.ofNat (hx (b.toNat % 16))]
def encL (form : Bool) (l : List UInt8) : List UInt8 := l.flatMap (encB form)
theorem encL_append (form : Bool) (a b : List UInt8) : encL form (a ++ b) = encL form a ++ encL form b := by simp [encL]
theorem encL_cons (form : Bool) (a : UInt8) (b : List UInt8) : encL form (a :: b) = encB form a ++ encL form b := by simp [encL]
/-- two digits' byte -/
def two (form : Bool) (a b : Nat) : Option UInt8 :=
  match dg a, dg b with
  | some x, some y => if plainB (x * 16 + y) || (form && x * 16 + y == 32) then none else some (UInt8.ofNat (x * 16 + y))
  | _, _ => none
def one (form : Bool) : List UInt8 → Option (UInt8 × Nat)
  | [] => none
  | c :: t =>
    if form && c.toNat == 43 then some (32, 1)
    else if c.toNat ≠ 37 then (if plainB c.toNat then some (c, 1) else none)
    else match t with
      | a :: b :: _ => (two form a.toNat b.toNat).map (·, 3)
      | _ => none
def decN (form : Bool) : Nat → List UInt8 → Option (List UInt8)
  | 0, _ => some []
  | f + 1, l => if l = [] then some [] else match one form l with
    | none => none
    | some (c, n) => (decN form f (l.drop n)).map (c :: ·)
def decL (form : Bool) (l : List UInt8) : Option (List UInt8) := decN form l.length l
theorem one_pos {form : Bool} {l : List UInt8} {c : UInt8} {n : Nat} (h : one form l = some (c, n)) : 1 ≤ n ∧ n ≤ l.length := by
  cases l with
  | nil => simp [one] at h
  | cons x t =>
    simp only [one] at h
    split at h
    · injection h with h; injection h with _ h; subst h; simp
    · split at h
      · split at h
        · injection h with h; injection h with _ h; subst h; simp
        · cases h
      · split at h
        · rw [Option.map_eq_some_iff] at h
          obtain ⟨a, _, h⟩ := h
          injection h with _ h; subst h; simp
        · cases h
theorem decN_enough (form : Bool) : ∀ (f : Nat) (l : List UInt8), l.length ≤ f → decN form f l = decN form l.length l
  | 0, l, h => by rw [show l.length = 0 by omega]
  | f + 1, l, h => by
    by_cases hl : l = []
    · subst hl; simp [decN]
    · have h0 : 0 < l.length := List.length_pos_iff.2 hl
      obtain ⟨n, hn⟩ : ∃ n, l.length = n + 1 := ⟨l.length - 1, by omega⟩
      rw [hn, decN, decN, if_neg hl, if_neg hl]
      cases ho : one form l with
      | none => rfl
      | some p =>
        obtain ⟨c, m⟩ := p
        have hp := (one_pos ho).1
        simp only
        rw [decN_enough form f _ (by rw [List.length_drop]; omega), decN_enough form n _ (by rw [List.length_drop]; omega)]
theorem decL_nil (form : Bool) : decL form [] = some [] := rfl
theorem decL_step (form : Bool) (l : List UInt8) (h : l ≠ []) : decL form l = match one form l with
    | none => none
    | some (c, n) => (decL form (l.drop n)).map (c :: ·) := by
  have h0 : 0 < l.length := List.length_pos_iff.2 h
  obtain ⟨n, hn⟩ : ∃ n, l.length = n + 1 := ⟨l.length - 1, by omega⟩
  rw [decL, hn, decN, if_neg h]
  cases ho : one form l with
  | none => rfl
  | some p =>
    obtain ⟨c, m⟩ := p
    have hp := (one_pos ho).1
    simp only
    rw [decN_enough form n _ (by rw [List.length_drop]; omega)]
    rfl
theorem plain_no : ∀ c : Fin 256, plainB c.val = true → c.val ≠ 37 ∧ c.val ≠ 43 ∧ c.val ≠ 32 := by decide +kernel
theorem hx_dg : ∀ n : Fin 256, dg (UInt8.ofNat (hx (n.val / 16))).toNat = some (n.val / 16) ∧ dg (UInt8.ofNat (hx (n.val % 16))).toNat = some (n.val % 16) := by decide +kernel
theorem dg_hx {n x : Nat} (h : dg n = some x) : x < 16 ∧ hx x = n := by
  unfold dg at h
  split at h
  · injection h with h; unfold hx; split <;> omega
  · split at h
    · injection h with h; unfold hx; split <;> omega
    · cases h
theorem one_enc (form : Bool) (c : UInt8) (r : List UInt8) : one form (encB form c ++ r) = some (c, (encB form c).length) := by
  have hp := plain_no ⟨c.toNat, c.toNat_lt⟩
  have hd := hx_dg ⟨c.toNat, c.toNat_lt⟩
  simp only at hp hd
  unfold encB
  by_cases h1 : (form && c.toNat == 32) = true
  · rw [if_pos h1]
    simp only [Bool.and_eq_true, beq_iff_eq] at h1
    have : c = 32 := by rw [← UInt8.toNat_inj, h1.2]; rfl
    simp [one, h1.1, this]
  · rw [if_neg h1]
    by_cases h2 : plainB c.toNat = true
    · rw [if_pos h2]
      obtain ⟨p1, p2, p3⟩ := hp h2
      simp [one, p1, p2, h2]
    · rw [if_neg h2]
      have hv : c.toNat / 16 * 16 + c.toNat % 16 = c.toNat := by omega
      have ht : two form (UInt8.ofNat (hx (c.toNat / 16))).toNat (UInt8.ofNat (hx (c.toNat % 16))).toNat = some c := by
        rw [two, hd.1, hd.2]
        simp only [hv]
        rw [if_neg (by simp only [Bool.or_eq_true, not_or]; exact ⟨h2, h1⟩)]
        simp
      simp only [one, List.cons_append, List.nil_append, ht]
      simp
theorem decL_enc (form : Bool) : ∀ (b r : List UInt8), decL form (encL form b ++ r) = (decL form r).map (b ++ ·)
  | [], r => by simp [encL]
  | c :: b, r => by
    have hne : encL form (c :: b) ++ r ≠ [] := by
      rw [encL_cons, List.append_assoc]
      intro e
      have ho := one_enc form c (encL form b ++ r)
      rw [e] at ho
      simp [one] at ho
    rw [decL_step form _ hne, encL_cons, List.append_assoc, one_enc]
    simp only [List.drop_left]
    rw [decL_enc form b r, Option.map_map]
    congr 1
theorem decL_back (form : Bool) (b : List UInt8) : decL form (encL form b) = some b := by
  have := decL_enc form b []
  rw [List.append_nil, decL_nil] at this
  simpa using this
theorem one_is {form : Bool} {l : List UInt8} {c : UInt8} {n : Nat} (h : one form l = some (c, n)) : l = encB form c ++ l.drop n := by
  cases l with
  | nil => simp [one] at h
  | cons x t =>
    simp only [one] at h
    split at h
    · rename_i h1
      injection h with h; injection h with h h'; subst h; subst h'
      simp only [Bool.and_eq_true, beq_iff_eq] at h1
      have hx : x = 43 := by rw [← UInt8.toNat_inj, h1.2]; rfl
      simp [encB, h1.1, hx]
    · rename_i h1
      split at h
      · rename_i h2
        split at h
        · rename_i h3
          injection h with h; injection h with h h'; subst h; subst h'
          have hp := plain_no ⟨x.toNat, x.toNat_lt⟩ h3
          simp only at hp
          simp [encB, h3, hp.2.2]
        · cases h
      · rename_i h2
        have hx37 : x = 37 := by rw [← UInt8.toNat_inj]; simpa using h2
        split at h
        · rename_i a b r
          rw [Option.map_eq_some_iff] at h
          obtain ⟨v, hv, h⟩ := h
          injection h with h h'; subst h; subst h'
          unfold two at hv
          cases da : dg a.toNat with
          | none => rw [da] at hv; cases hv
          | some p =>
            cases db : dg b.toNat with
            | none => rw [da, db] at hv; cases hv
            | some q =>
              rw [da, db] at hv
              simp only at hv
              obtain ⟨p1, p2⟩ := dg_hx da
              obtain ⟨q1, q2⟩ := dg_hx db
              split at hv
              · cases hv
              · rename_i hn
                injection hv with hv
                subst hv
                have hto : (UInt8.ofNat (p * 16 + q)).toNat = p * 16 + q := by simp; omega
                simp only [Bool.or_eq_true, not_or] at hn
                rw [encB, hto, if_neg hn.2, if_neg hn.1, hx37, show (p * 16 + q) / 16 = p by omega, show (p * 16 + q) % 16 = q by omega, p2, q2]
                simp
        · cases h
/-- the document's way: each escape is taken; what is read must be written just so -/
def rone (form : Bool) (l : List UInt8) : Option (UInt8 × Nat) :=
  match l with
  | [] => none
  | c :: t =>
    if plainB c.toNat then some (c, 1)
    else if form && c.toNat == 43 then some (32, 1)
    else if c.toNat = 37 then match t with
      | a :: b :: _ => match dg a.toNat, dg b.toNat with
        | some x, some y => some (UInt8.ofNat (x * 16 + y), 3)
        | _, _ => none
      | _ => none
    else none
def rtwo (t : List UInt8) : Option (UInt8 × Nat) :=
  match t with
  | a :: b :: _ => match dg a.toNat, dg b.toNat with
    | some x, some y => some (UInt8.ofNat (x * 16 + y), 3)
    | _, _ => none
  | _ => none
theorem rone_cons (form : Bool) (c : UInt8) (t : List UInt8) : rone form (c :: t) = if plainB c.toNat then some (c, 1) else if form && c.toNat == 43 then some (32, 1) else if c.toNat = 37 then rtwo t else none := rfl
theorem rtwo_cons (a b : UInt8) (t : List UInt8) : rtwo (a :: b :: t) = match dg a.toNat, dg b.toNat with
    | some x, some y => some (UInt8.ofNat (x * 16 + y), 3)
    | _, _ => none := rfl
theorem rtwo_short {t : List UInt8} (h : t.length < 2) : rtwo t = none := by
  match t, h with
  | [], _ => rfl
  | [_], _ => rfl
theorem one_cons (form : Bool) (c : UInt8) (t : List UInt8) : one form (c :: t) = if form && c.toNat == 43 then some (32, 1) else if c.toNat ≠ 37 then (if plainB c.toNat then some (c, 1) else none) else match t with
      | a :: b :: _ => (two form a.toNat b.toNat).map (·, 3)
      | _ => none := rfl
theorem one_rone {form : Bool} {l : List UInt8} {p : UInt8 × Nat} (h : one form l = some p) : rone form l = some p := by
  cases l with
  | nil => simp [one] at h
  | cons c t =>
    have hp := plain_no ⟨c.toNat, c.toNat_lt⟩
    simp only at hp
    simp only [one] at h
    simp only [rone]
    split at h
    · rename_i h1
      rw [if_neg (fun e => (hp e).2.1 (by simp only [Bool.and_eq_true, beq_iff_eq] at h1; exact h1.2)), if_pos h1]
      exact h
    · rename_i h1
      split at h
      · split at h
        · rename_i h3
          rw [if_pos h3]; exact h
        · cases h
      · rename_i h2
        have h2' : c.toNat = 37 := by omega
        rw [if_neg (fun e => (hp e).1 h2'), if_neg h1, if_pos h2']
        split at h
        · rename_i a b r
          rw [Option.map_eq_some_iff] at h
          obtain ⟨v, hv, h⟩ := h
          unfold two at hv
          cases da : dg a.toNat with
          | none => rw [da] at hv; cases hv
          | some x =>
            cases db : dg b.toNat with
            | none => rw [da, db] at hv; cases hv
            | some y =>
              rw [da, db] at hv
              simp only at hv ⊢
              split at hv
              · cases hv
              · injection hv with hv; rw [hv]; exact congrArg some h
        · cases h
theorem rone_pos {form : Bool} {l : List UInt8} {c : UInt8} {n : Nat} (h : rone form l = some (c, n)) : 1 ≤ n ∧ n ≤ l.length := by
  cases l with
  | nil => simp [rone] at h
  | cons x t =>
    simp only [rone] at h
    split at h
    · injection h with h; injection h with _ h; subst h; simp
    · split at h
      · injection h with h; injection h with _ h; subst h; simp
      · split at h
        · split at h
          · split at h
            · injection h with h; injection h with _ h; subst h; simp
            · cases h
          · cases h
        · cases h
def rdecN (form : Bool) : Nat → List UInt8 → Option (List UInt8)
  | 0, _ => some []
  | f + 1, l => if l = [] then some [] else match rone form l with
    | none => none
    | some (c, n) => (rdecN form f (l.drop n)).map (c :: ·)
def rdecL (form : Bool) (l : List UInt8) : Option (List UInt8) := rdecN form l.length l
theorem rdecN_enough (form : Bool) : ∀ (f : Nat) (l : List UInt8), l.length ≤ f → rdecN form f l = rdecN form l.length l
  | 0, l, h => by rw [show l.length = 0 by omega]
  | f + 1, l, h => by
    by_cases hl : l = []
    · subst hl; simp [rdecN]
    · have h0 : 0 < l.length := List.length_pos_iff.2 hl
      obtain ⟨n, hn⟩ : ∃ n, l.length = n + 1 := ⟨l.length - 1, by omega⟩
      rw [hn, rdecN, rdecN, if_neg hl, if_neg hl]
      cases ho : rone form l with
      | none => rfl
      | some p =>
        obtain ⟨c, m⟩ := p
        have hp := (rone_pos ho).1
        simp only
        rw [rdecN_enough form f _ (by rw [List.length_drop]; omega), rdecN_enough form n _ (by rw [List.length_drop]; omega)]
theorem rdecL_nil (form : Bool) : rdecL form [] = some [] := rfl
theorem rdecL_step (form : Bool) (l : List UInt8) (h : l ≠ []) : rdecL form l = match rone form l with
    | none => none
    | some (c, n) => (rdecL form (l.drop n)).map (c :: ·) := by
  have h0 : 0 < l.length := List.length_pos_iff.2 h
  obtain ⟨n, hn⟩ : ∃ n, l.length = n + 1 := ⟨l.length - 1, by omega⟩
  rw [rdecL, hn, rdecN, if_neg h]
  cases ho : rone form l with
  | none => rfl
  | some p =>
    obtain ⟨c, m⟩ := p
    have hp := (rone_pos ho).1
    simp only
    rw [rdecN_enough form n _ (by rw [List.length_drop]; omega)]
    rfl
theorem decL_is (form : Bool) : ∀ (f : Nat) (l b : List UInt8), l.length ≤ f → decL form l = some b → encL form b = l ∧ rdecL form l = some b
  | 0, l, b, hl, h => by
    obtain rfl : l = [] := List.eq_nil_of_length_eq_zero (by omega)
    rw [decL_nil] at h
    injection h with h; subst h
    exact ⟨rfl, rfl⟩
  | f + 1, l, b, hl, h => by
    by_cases h0 : l = []
    · subst h0
      rw [decL_nil] at h
      injection h with h; subst h
      exact ⟨rfl, rfl⟩
    · rw [decL_step form l h0] at h
      cases ho : one form l with
      | none => rw [ho] at h; cases h
      | some p =>
        obtain ⟨c, n⟩ := p
        rw [ho] at h
        simp only at h
        rw [Option.map_eq_some_iff] at h
        obtain ⟨b', hb', rfl⟩ := h
        have hp := one_pos ho
        obtain ⟨i1, i2⟩ := decL_is form f (l.drop n) b' (by rw [List.length_drop]; omega) hb'
        refine ⟨?_, ?_⟩
        · rw [encL_cons, i1]; exact (one_is ho).symm
        · rw [rdecL_step form l h0, one_rone ho]
          simp only
          rw [i2]; rfl
theorem decL_ref (form : Bool) (l : List UInt8) : decL form l = match rdecL form l with
    | some b => if encL form b = l then some b else none
    | none => none := by
  cases hd : decL form l with
  | some b =>
    obtain ⟨h1, h2⟩ := decL_is form l.length l b (Nat.le_refl _) hd
    rw [h2]; simp [h1]
  | none =>
    cases hr : rdecL form l with
    | none => rfl
    | some b =>
      simp only
      by_cases h : encL form b = l
      · have := decL_back form b
        rw [h, hd] at this; cases this
      · rw [if_neg h]
end Pc
section
open Go.RowKit Pc
theorem below_next {w0 w1 w2 : World} (h : Below w0.heap.size w0 w1) (k : Below w1.heap.size w1 w2) : Below w0.heap.size w0 w2 := h.trans (k.mono h.size)
theorem hex_walk (n : Nat) (w : World) (hn : n < 16) : Calls Tryz.prog 101 #[.int .i64 (n : Int)] w fun e w' => e = .returned (.int .u8 (hx n : Nat)) ∧ w = w' := by
  by_cases h : n < 10
  · have hv : Hid (((hx n : Nat) : Int) = 48 + n) := by show _ = _; rw [hx, if_pos h]; omega
    go_enter Tryz.func101, Tryz.ntmps101
    go_wp2_with fail
    go_ret
    exact ⟨by rw [hv.out]; rfl, rfl⟩
  · have hv : Hid (((hx n : Nat) : Int) = 65 + n - 10) := by show _ = _; rw [hx, if_neg h]; omega
    go_enter Tryz.func101, Tryz.ntmps101
    go_wp2_with fail
    go_ret
    exact ⟨by rw [hv.out]; rfl, rfl⟩
def dgI (c : Nat) : Int := match dg c with | some x => x | none => -1
theorem rdig_walk (c : Nat) (w : World) (hc : c < 256) : Calls Tryz.prog 82 #[.int .u8 (c : Int)] w fun e w' => e = .returned (.int .i64 (dgI c)) ∧ w = w' := by
  by_cases h1 : 48 ≤ c ∧ c ≤ 57
  · have hv : Hid (dgI c = (c : Int) - 48) := by show _ = _; rw [dgI, dg, if_pos h1]; show ((c - 48 : Nat) : Int) = _; omega
    obtain ⟨h1, h2⟩ := h1
    go_enter Tryz.func82, Tryz.ntmps82
    go_wp2_with fail
    go_ret
    exact ⟨by rw [hv.out]; rfl, rfl⟩
  · by_cases h2 : 65 ≤ c ∧ c ≤ 70
    · have hv : Hid (dgI c = (c : Int) - 65 + 10) := by show _ = _; rw [dgI, dg, if_neg h1, if_pos h2]; show ((c - 55 : Nat) : Int) = _; omega
      obtain ⟨h2, h3⟩ := h2
      have h4 : ¬ c ≤ 57 := by omega
      have h5 : 48 ≤ c := by omega
      clear h1
      go_enter Tryz.func82, Tryz.ntmps82
      go_wp2_with fail
      go_ret
      exact ⟨by rw [hv.out]; rfl, rfl⟩
    · have hv : Hid (dgI c = -1) := by show _ = _; rw [dgI, dg, if_neg h1, if_neg h2]
      have hcl : c < 48 ∨ (48 ≤ c ∧ 57 < c ∧ c < 65) ∨ (48 ≤ c ∧ 57 < c ∧ 65 ≤ c ∧ 70 < c) := by omega
      clear h1 h2
      rcases hcl with h | ⟨h, h', h''⟩ | ⟨h, h', h'', h3⟩
      · have h4 : c < 65 := by omega
        go_enter Tryz.func82, Tryz.ntmps82
        go_wp2_with fail
        go_ret
        exact ⟨by rw [hv.out]; rfl, rfl⟩
      · go_enter Tryz.func82, Tryz.ntmps82
        go_wp2_with fail
        go_ret
        exact ⟨by rw [hv.out]; rfl, rfl⟩
      · go_enter Tryz.func82, Tryz.ntmps82
        go_wp2_with fail
        go_ret
        exact ⟨by rw [hv.out]; rfl, rfl⟩
def bareR (c : Nat) (form : Bool) : Nat := if form && c == 32 then 43 else c
def bareB (c : Nat) (form : Bool) : Bool := (form && c == 32) || plainB c
theorem bare_walk (c : Nat) (form : Bool) (w : World) (hc : c < 256) : Calls Tryz.prog 110 #[.int .u8 (c : Int), .bool form] w fun e w' => e = .returned (.tuple #[.int .i32 (bareR c form : Nat), .bool (bareB c form)]) ∧ w = w' := by
  have cp := Lib.hid (plain_walk c)
  cases form
  · have h1 : Hid (bareR c false = c) := rfl
    have h2 : Hid (bareB c false = plainB c) := rfl
    go_enter Tryz.func110, Tryz.ntmps110
    go_wp2_with fail
    refine (cp.out _).mono ?_
    rintro _ w1 ⟨rfl, rfl⟩
    go_wp2_with fail
    go_ret2
    exact ⟨by rw [h1.out, h2.out]; rfl, rfl⟩
  · by_cases h : c = 32
    · subst h
      clear cp hc
      go_enter Tryz.func110, Tryz.ntmps110
      go_wp2_with fail
      go_ret2
      exact ⟨rfl, rfl⟩
    · have h1 : Hid (bareR c true = c) := by show _ = _; simp [bareR, h]
      have h2 : Hid (bareB c true = plainB c) := by show _ = _; simp [bareB, h]
      have hb : ((c : Int) == 32) = false := by rw [beq_eq_false_iff_ne]; omega
      clear h
      go_enter Tryz.func110, Tryz.ntmps110
      go_wp2_with fail
      refine (cp.out _).mono ?_
      rintro _ w1 ⟨rfl, rfl⟩
      go_wp2_with fail
      go_ret2
      exact ⟨by rw [h1.out, h2.out]; rfl, rfl⟩
end
section
open Go.RowKit Pc
theorem info_u8 : (Tryz.prog.info? 5).map (fun i => (i.zero, i.size, i.bytes)) = some (some (.int .u8 0), 1, 1) := by kernel_rfl
theorem encB_le (form : Bool) (b : UInt8) : (encB form b).length ≤ 3 := by
  unfold encB; split
  · simp
  · split <;> simp
theorem encL_le (form : Bool) : ∀ l : List UInt8, (encL form l).length ≤ 3 * l.length
  | [] => by simp [encL]
  | b :: l => by
    rw [encL_cons, List.length_append, List.length_cons]
    have := encB_le form b
    have := encL_le form l
    omega
theorem encL_take (form : Bool) {l : List UInt8} {k : Nat} (h : k < l.length) : encL form (l.take (k + 1)) = encL form (l.take k) ++ encB form (l.getD k 0) := by
  rw [List.take_succ_eq_append_getElem h, encL_append, List.getD_eq_getElem?_getD, List.getElem?_eq_getElem h]
  simp [encL]
theorem own_next {w : World} {B : Nat} {T : TypeId} {v : Value} {o news o' : List UInt8} {m : Nat} {cs : List Value} (h : w.ownsRow B T 1 v (o.length + m) (Lib.byteCells o ++ cs)) (hc : cs = Lib.byteCells news) (hm : news.length = m) (e : o' = o ++ news) :
    w.ownsRow B T 1 v o'.length (Lib.byteCells o') := by
  subst e; subst hm; subst hc
  rw [List.length_append, Lib.byteCells_append]
  exact h
theorem cells_one {x : UInt8} {b : Nat} (h : x.toNat = b) : ([.int .u8 (b : Int)] : List Value) = Lib.byteCells [x] := by simp [Lib.byteCells, h]
set_option maxHeartbeats 2000000 in
theorem renc_walk (s : ByteArray) (l : List UInt8) (hs : s.data.toList = l) (form : Bool) (w : World) (hm : s.size ≤ 1000000) :
    Calls Tryz.prog 83 #[.string s, .bool form] w fun e w' => e = .returned (.string ⟨(encL form l).toArray⟩) ∧ Below w.heap.size w w' := by
  have hsz : l.length = s.size := by rw [← hs, Lib.size_eq]
  obtain ⟨i0, hi, hz0, hz1, hz2⟩ := info_parts info_u8
  go_enter Tryz.func83, Tryz.ntmps83
  go_wp2_with fail
  go_loopw [5, 6] (fun ov nv wr => ∃ k : Nat, k ≤ s.size ∧ nv = .int .i64 k ∧ wr.ownsRow w.heap.size 5 1 ov (encL form (l.take k)).length (Lib.byteCells (encL form (l.take k))) ∧ Below w.heap.size w wr) (fun _ nv _ => s.size - (intOf nv).toNat)
  case atStart => exact ⟨0, by omega, rfl, World.ownsRow_nil _ _ _ _, Below.refl _ _⟩
  case round =>
    obtain ⟨k, hk, rfl, hown, hbl⟩ := hrel
    obtain ⟨o, ho⟩ : ∃ o, encL form (l.take k) = o := ⟨_, rfl⟩
    have hol : o.length ≤ 3000000 := by
      rw [← ho]
      have := encL_le form (l.take k)
      rw [List.length_take] at this
      omega
    rw [ho] at hown
    by_cases hlt : k < s.size
    · obtain ⟨b, eb, hb, hb2⟩ : ∃ b : Nat, (s[k]'hlt).toNat = b ∧ Hid ((l.getD k 0).toNat = b) ∧ b < 256 := ⟨_, str_at hs hlt, rfl, (l.getD k 0).toNat_lt⟩
      have hst := encL_take form (l := l) (k := k) (by omega)
      rw [ho] at hst
      have HST := Lib.hid hst
      have HO := Lib.hid ho
      have cp := Lib.hid (rplain_walk b)
      rw [rplain_eq ⟨b, hb2⟩] at cp
      have hx : UInt8.ofNat b = l.getD k 0 := by rw [← hb.out]; simp
      have HX := Lib.hid hx
      clear hst ho hx
      cases hp : plainB b
      · rw [hp] at cp
        by_cases h32 : form = true ∧ b = 32
        · obtain ⟨rfl, rfl⟩ := h32
          have hnew : Hid (encB true (l.getD k 0) = [43]) := by show _ = _; rw [encB, hb.out]; rfl
          have hrd := reads_row wr 5 [.int .u8 43]
          clear hp
          go_wp2_with fail
          refine (cp.out _).mono ?_
          rintro _ w1 ⟨rfl, rfl⟩
          go_wp2_with (at_builtin; refine wpList_append_any (wr.alloc (.cells #[.int .u8 43] 5)) rfl (.tmp 41) (.tmp 42) 28 rfl w.heap.size 5 i0 (.int .u8 0) 1 1 Tryz.underlying28 hi hz0 hz1 hz2 rfl (by decide) u5 o.length (Lib.byteCells o) rfl (hown.alloc _) (wr.heap.size + 1) _ 1 1 [.int .u8 43] rfl hrd (by simp [Value.oneCell']) (by unfold maxLen; omega) (by omega) (by have := hbl.size; simp; omega) ?_; intro v' w2 hown2 hg2 hat2)
          have hbl2 : Below w.heap.size w w2 := (hbl.alloc hbl.size _).grown hg2 (by have := hbl.size; simp; omega) (fun g hg => by have := hown.lt g hg; omega)
          have hown3 := own_next (news := [43]) hown2 (rfl) rfl (HST.out.trans (congrArg (o ++ ·) hnew.out))
          exact ⟨⟨k + 1, by omega, by go_num, hown3, hbl2⟩, by simp [intOf]; omega⟩
        · have hnew : Hid (encB form (l.getD k 0) = [37, UInt8.ofNat (hx (b / 16)), UInt8.ofNat (hx (b % 16))]) := by
            show _ = _
            rw [encB, hb.out, hp, if_neg, if_neg]
            · simp
            · simpa using h32
          have hh1 : hx (b / 16) < 256 := by unfold hx; split <;> omega
          have hh2 : hx (b % 16) < 256 := by unfold hx; split <;> omega
          obtain ⟨x1, hx1⟩ : ∃ x1, hx (b / 16) = x1 := ⟨_, rfl⟩
          obtain ⟨x2, hx2⟩ : ∃ x2, hx (b % 16) = x2 := ⟨_, rfl⟩
          have c1 := Lib.hid (fun w => hex_walk (b / 16) w (by omega))
          have c2 := Lib.hid (fun w => hex_walk (b % 16) w (by omega))
          rw [hx1] at c1 hh1 hnew
          rw [hx2] at c2 hh2 hnew
          have hrd := reads_row wr 5 [.int .u8 37, .int .u8 (x1 : Int), .int .u8 (x2 : Int)]
          have hcs : Hid (([.int .u8 37, .int .u8 (x1 : Int), .int .u8 (x2 : Int)] : List Value) = Lib.byteCells [37, UInt8.ofNat x1, UInt8.ofNat x2]) := by
            show _ = _
            simp [Lib.byteCells, Nat.mod_eq_of_lt hh1, Nat.mod_eq_of_lt hh2]
          clear hx1 hx2 hp
          have hcase : form = false ∨ form = true ∧ ((b : Int) == 32) = false := by
            cases form
            · exact .inl rfl
            · right
              refine ⟨rfl, ?_⟩
              rw [beq_eq_false_iff_ne]
              intro e
              exact h32 ⟨rfl, by omega⟩
          clear h32
          rcases hcase with rfl | ⟨rfl, hq⟩
          all_goals
            go_wp2_with fail
            refine (cp.out _).mono ?_
            rintro _ w1 ⟨rfl, rfl⟩
            go_wp2_with fail
            refine (c1.out _).mono ?_
            rintro _ w1 ⟨rfl, rfl⟩
            go_wp2_with fail
            refine (c2.out _).mono ?_
            rintro _ w1 ⟨rfl, rfl⟩
            go_wp2_with (at_builtin; refine wpList_append_any (wr.alloc (.cells #[.int .u8 37, .int .u8 (x1 : Int), .int .u8 (x2 : Int)] 5)) rfl (.tmp 17) (.tmp 26) 28 rfl w.heap.size 5 i0 (.int .u8 0) 1 1 Tryz.underlying28 hi hz0 hz1 hz2 rfl (by decide) u5 o.length (Lib.byteCells o) rfl (hown.alloc _) (wr.heap.size + 1) _ 3 3 [.int .u8 37, .int .u8 (x1 : Int), .int .u8 (x2 : Int)] rfl hrd (by simp [Value.oneCell']) (by unfold maxLen; omega) (by omega) (by have := hbl.size; simp; omega) ?_; intro v' w2 hown2 hg2 hat2)
            have hbl2 : Below w.heap.size w w2 := (hbl.alloc hbl.size _).grown hg2 (by have := hbl.size; simp; omega) (fun g hg => by have := hown.lt g hg; omega)
            have hown3 := own_next (news := [37, UInt8.ofNat x1, UInt8.ofNat x2]) hown2 (hcs.out) rfl (HST.out.trans (congrArg (o ++ ·) hnew.out))
            exact ⟨⟨k + 1, by omega, by go_num, hown3, hbl2⟩, by simp [intOf]; omega⟩
      · rw [hp] at cp
        have hnew : Hid (encB form (l.getD k 0) = [l.getD k 0]) := by
          show _ = _
          have := plain_no ⟨b, hb2⟩ hp
          simp only at this
          rw [encB, hb.out, hp]
          simp [this.2.2]
        have hrd := reads_row wr 5 [.int .u8 (b : Int)]
        clear hp
        go_wp2_with fail
        refine (cp.out _).mono ?_
        rintro _ w1 ⟨rfl, rfl⟩
        go_wp2_with (at_builtin; refine wpList_append_any (wr.alloc (.cells #[.int .u8 (b : Int)] 5)) rfl (.tmp 31) (.tmp 33) 28 rfl w.heap.size 5 i0 (.int .u8 0) 1 1 Tryz.underlying28 hi hz0 hz1 hz2 rfl (by decide) u5 o.length (Lib.byteCells o) rfl (hown.alloc _) (wr.heap.size + 1) _ 1 1 [.int .u8 (b : Int)] rfl hrd (by simp [Value.oneCell']) (by unfold maxLen; omega) (by omega) (by have := hbl.size; simp; omega) ?_; intro v' w2 hown2 hg2 hat2)
        have hbl2 : Below w.heap.size w w2 := (hbl.alloc hbl.size _).grown hg2 (by have := hbl.size; simp; omega) (fun g hg => by have := hown.lt g hg; omega)
        have hown3 := own_next (news := [l.getD k 0]) hown2 (cells_one hb.out) rfl (HST.out.trans (congrArg (o ++ ·) hnew.out))
        exact ⟨⟨k + 1, by omega, by go_num, hown3, hbl2⟩, by simp [intOf]; omega⟩
    · have hke : k = l.length := by omega
      rw [hke, List.take_length] at ho
      have hln : o.length = o.length := rfl
      obtain ⟨A, c, rfl, hnc, hrd⟩ := own_reads hown (Nat.le_refl _)
      have hst := reads_str (P := Tryz.prog) (c := c) hrd 28 9 5 Tryz.underlying28 Tryz.underlying5 Tryz.underlying9
      have HO := Lib.hid ho
      clear ho hke hln hrd
      go_wp2_with fail
      go_ret
      exact ⟨by rw [HO.out]; rfl, hbl⟩
end
section
open Go.RowKit Pc
/-- what a reading gives: the text, and the errno -/
def decV (r : Option (List UInt8)) : Value := match r with
  | some b => .tuple #[.string ⟨b.toArray⟩, .int .i64 0]
  | none => .tuple #[.string ⟨#[]⟩, .int .i64 3]
theorem drop_head {l : List UInt8} {k : Nat} (h : k < l.length) : l.drop k = l.getD k 0 :: l.drop (k + 1) := by
  rw [List.drop_eq_getElem_cons h, List.getD_eq_getElem?_getD, List.getElem?_eq_getElem h, Option.getD_some]
theorem rdec_next {form : Bool} {l acc acc' : List UInt8} {k n : Nat} {c : UInt8} (h : rdecL form l = (rdecL form (l.drop k)).map (acc ++ ·)) (hk : k < l.length) (hr : rone form (l.drop k) = some (c, n)) (ha : acc' = acc ++ [c]) : rdecL form l = (rdecL form (l.drop (k + n))).map (acc' ++ ·) := by
  have hne : l.drop k ≠ [] := by
    intro e
    have := congrArg List.length e
    rw [List.length_drop, List.length_nil] at this
    omega
  rw [h, rdecL_step form _ hne, hr]
  simp only
  rw [List.drop_drop, Option.map_map, ha]
  congr 1
  funext x
  simp
theorem rdec_stop {form : Bool} {l acc : List UInt8} {k : Nat} (h : rdecL form l = (rdecL form (l.drop k)).map (acc ++ ·)) (hk : k < l.length) (hr : rone form (l.drop k) = none) : decL form l = none := by
  have hne : l.drop k ≠ [] := by
    intro e
    have := congrArg List.length e
    rw [List.length_drop, List.length_nil] at this
    omega
  rw [decL_ref, h, rdecL_step form _ hne, hr]
  rfl
theorem dgI_some {c x : Nat} (h : dg c = some x) : dgI c = x := by rw [dgI, h]
theorem dgI_none {c : Nat} (h : dg c = none) : dgI c = -1 := by rw [dgI, h]
set_option maxHeartbeats 4000000 in
set_option maxRecDepth 100000 in
theorem rdec_walk (s : ByteArray) (l : List UInt8) (hs : s.data.toList = l) (form : Bool) (w : World) (hm : s.size ≤ 1000000) :
    Calls Tryz.prog 65 #[.string s, .bool form] w fun e w' => e = .returned (decV (decL form l)) ∧ Below w.heap.size w w' := by
  have hsz : l.length = s.size := by rw [← hs, Lib.size_eq]
  obtain ⟨i0, hi, hz0, hz1, hz2⟩ := info_parts info_u8
  go_enter Tryz.func65, Tryz.ntmps65
  go_wp2_with fail
  go_loopw [6, 7] (fun ov nv wr => ∃ (k : Nat) (o : List UInt8), k ≤ s.size ∧ nv = .int .i64 k ∧ o.length ≤ k ∧ wr.ownsRow w.heap.size 5 1 ov o.length (Lib.byteCells o) ∧ Hid (rdecL form l = (rdecL form (l.drop k)).map (o ++ ·)) ∧ Below w.heap.size w wr) (fun _ nv _ => s.size - (intOf nv).toNat)
  case atStart => exact ⟨0, [], by omega, rfl, by simp, World.ownsRow_nil _ _ _ _, by show _ = _; simp, Below.refl _ _⟩
  case round =>
    obtain ⟨k, o, hk, rfl, hok, hown, hrd0, hbl⟩ := hrel
    by_cases hlt : k < s.size
    · obtain ⟨b, eb, hb, hb2⟩ : ∃ b : Nat, (s[k]'hlt).toNat = b ∧ Hid ((l.getD k 0).toNat = b) ∧ b < 256 := ⟨_, str_at hs hlt, rfl, (l.getD k 0).toNat_lt⟩
      have cp := Lib.hid (rplain_walk b)
      rw [rplain_eq ⟨b, hb2⟩] at cp
      have hdr := Lib.hid (drop_head (l := l) (k := k) (by omega))
      cases hp : plainB b
      · rw [hp] at cp
        by_cases h43 : form = true ∧ b = 43
        · obtain ⟨rfl, rfl⟩ := h43
          have HR : Hid (rone true (l.drop k) = some (32, 1)) := by
            show _ = _
            rw [hdr.out, rone_cons, hb.out, hp]
            rfl
          have hrd := reads_row wr 5 [.int .u8 32]
          have hl2 := Lib.hid (show k < l.length by omega)
          clear hp hdr
          go_wp2_with fail
          refine (cp.out _).mono ?_
          rintro _ w1 ⟨rfl, rfl⟩
          go_wp2_with (at_builtin; refine wpList_append_any (wr.alloc (.cells #[.int .u8 32] 5)) rfl (.tmp 31) (.tmp 32) 28 rfl w.heap.size 5 i0 (.int .u8 0) 1 1 Tryz.underlying28 hi hz0 hz1 hz2 rfl (by decide) u6 o.length (Lib.byteCells o) rfl (hown.alloc _) (wr.heap.size + 1) _ 1 1 [.int .u8 32] rfl hrd (by simp [Value.oneCell']) (by unfold maxLen; omega) (by omega) (by have := hbl.size; simp; omega) ?_; intro v' w2 hown2 hg2 hat2)
          have hbl2 : Below w.heap.size w w2 := (hbl.alloc hbl.size _).grown hg2 (by have := hbl.size; simp; omega) (fun g hg => by have := hown.lt g hg; omega)
          have hown3 := own_next (o' := o ++ [32]) (news := [32]) hown2 rfl rfl rfl
          exact ⟨⟨k + 1, o ++ [32], by omega, by go_num, by simp; omega, hown3, rdec_next hrd0.out hl2.out HR.out rfl, hbl2⟩, by simp [intOf]; omega⟩
        · have hcase : form = false ∨ form = true ∧ ((b : Int) == 43) = false := by
            cases form
            · exact .inl rfl
            · right
              refine ⟨rfl, ?_⟩
              rw [beq_eq_false_iff_ne]
              intro e
              exact h43 ⟨rfl, by omega⟩
          by_cases h37 : b = 37
          · by_cases hk2 : k + 2 < s.size
            · obtain ⟨x, ex, hx, hx2⟩ : ∃ x : Nat, (s[k + 1]'(by omega)).toNat = x ∧ Hid ((l.getD (k + 1) 0).toNat = x) ∧ x < 256 := ⟨_, str_at hs (by omega), rfl, (l.getD (k + 1) 0).toNat_lt⟩
              obtain ⟨y, ey, hy, hy2⟩ : ∃ y : Nat, (s[k + 2]'hk2).toNat = y ∧ Hid ((l.getD (k + 2) 0).toNat = y) ∧ y < 256 := ⟨_, str_at hs hk2, rfl, (l.getD (k + 2) 0).toNat_lt⟩
              have cx := Lib.hid (fun w => rdig_walk x w hx2)
              have cy := Lib.hid (fun w => rdig_walk y w hy2)
              have hd1 := Lib.hid (drop_head (l := l) (k := k + 1) (by omega))
              have hd2 := Lib.hid (drop_head (l := l) (k := k + 2) (by omega))
              have htail : l.drop (k + 1) = l.getD (k + 1) 0 :: l.getD (k + 2) 0 :: l.drop (k + 3) := by rw [hd1.out, hd2.out]
              have h37i : ((b : Int) == 37) = true := by rw [beq_iff_eq]; omega
              cases da : dg x with
              | none =>
                have HR : Hid (rone form (l.drop k) = none) := by
                  show _ = _
                  rw [hdr.out, rone_cons, hb.out, hp, if_neg (by simp), if_neg (by simpa using h43), if_pos h37, htail, rtwo_cons, hx.out, da]
                have hv := Lib.hid (rdec_stop hrd0.out (by omega) HR.out)
                rw [dgI_none da] at cx
                clear h43 hp hdr hrd0 HR h37 htail hd1 hd2 da
                rcases hcase with rfl | ⟨rfl, hq⟩
                all_goals
                  go_wp2_with fail
                  refine (cp.out _).mono ?_
                  rintro _ w1 ⟨rfl, rfl⟩
                  go_wp2_with fail
                  refine (cx.out _).mono ?_
                  rintro _ w1 ⟨rfl, rfl⟩
                  go_wp2_with fail
                  go_ret2
                  exact ⟨by rw [hv.out]; rfl, hbl⟩
              | some p =>
                obtain ⟨hp16, _⟩ := dg_hx da
                cases db : dg y with
                | none =>
                  have HR : Hid (rone form (l.drop k) = none) := by
                    show _ = _
                    rw [hdr.out, rone_cons, hb.out, hp, if_neg (by simp), if_neg (by simpa using h43), if_pos h37, htail, rtwo_cons, hx.out, hy.out, da, db]
                  have hv := Lib.hid (rdec_stop hrd0.out (by omega) HR.out)
                  rw [dgI_some da] at cx
                  rw [dgI_none db] at cy
                  clear h43 hp hdr hrd0 HR h37 htail hd1 hd2 da db
                  rcases hcase with rfl | ⟨rfl, hq⟩
                  all_goals
                    go_wp2_with fail
                    refine (cp.out _).mono ?_
                    rintro _ w1 ⟨rfl, rfl⟩
                    go_wp2_with fail
                    refine (cx.out _).mono ?_
                    rintro _ w1 ⟨rfl, rfl⟩
                    go_wp2_with fail
                    refine (cy.out _).mono ?_
                    rintro _ w1 ⟨rfl, rfl⟩
                    go_wp2_with fail
                    go_ret2
                    exact ⟨by rw [hv.out]; rfl, hbl⟩
                | some q =>
                  obtain ⟨hq16, _⟩ := dg_hx db
                  have HR : Hid (rone form (l.drop k) = some (UInt8.ofNat (p * 16 + q), 3)) := by
                    show _ = _
                    rw [hdr.out, rone_cons, hb.out, hp, if_neg (by simp), if_neg (by simpa using h43), if_pos h37, htail, rtwo_cons, hx.out, hy.out, da, db]
                  rw [dgI_some da] at cx
                  rw [dgI_some db] at cy
                  have hl2 := Lib.hid (show k < l.length by omega)
                  clear h43 hp hdr h37 htail hd1 hd2 da db
                  rcases hcase with rfl | ⟨rfl, hq⟩
                  all_goals
                    go_wp2_with fail
                    refine (cp.out _).mono ?_
                    rintro _ w1 ⟨rfl, rfl⟩
                    go_wp2_with fail
                    refine (cx.out _).mono ?_
                    rintro _ w1 ⟨rfl, rfl⟩
                    go_wp2_with fail
                    refine (cy.out _).mono ?_
                    rintro _ w1 ⟨rfl, rfl⟩
                    go_wp2_with fail
                    have hs1 : IntKind.i64.wrap ((k : Int) + 1) = (k : Int) + 1 := IntWalk.i64_in _ (by omega)
                    have hs2 : IntKind.i64.wrap ((k : Int) + 2) = (k : Int) + 2 := IntWalk.i64_in _ (by omega)
                    have hs3 : IntKind.i64.wrap ((p : Int) * 16) = (p : Int) * 16 := IntWalk.i64_in _ (by omega)
                    have hs4 : IntKind.i64.wrap ((p : Int) * 16 + (q : Int)) = (p : Int) * 16 + (q : Int) := IntWalk.i64_in _ (by omega)
                    have hs5 : IntKind.u8.wrap ((p : Int) * 16 + (q : Int)) = (p : Int) * 16 + (q : Int) := by rw [IntKind.wrap_u8]; omega
                    have g1 : (0 : Int) ≤ (k : Int) + 1 := by omega
                    have g2 : (0 : Int) ≤ (k : Int) + 2 := by omega
                    have g3 : (k : Int) + 1 < (s.size : Int) := by omega
                    have g4 : (k : Int) + 2 < (s.size : Int) := by omega
                    have g5 : ((k : Int) + 1).toNat = k + 1 := by omega
                    have g6 : ((k : Int) + 2).toNat = k + 2 := by omega
                    have g7 : (0 : Int) ≤ (p : Int) * 16 + (q : Int) := by omega
                    have g8 : (p : Int) * 16 + (q : Int) < 256 := by omega
                    have hrd : Reads (wr.alloc (.cells #[.int .u8 ((p : Int) * 16 + (q : Int))] 5)).drew (wr.heap.size + 1) 1 (some ⟨wr.heap.size, 0, none⟩) 1 [.int .u8 ((p : Int) * 16 + (q : Int))] := reads_row wr 5 [.int .u8 ((p : Int) * 16 + (q : Int))]
                    refine wp_region_held_drew (S := fun _ => True) (by kernel_rfl) trivial (fun hHeld => ?_)
                    first | (refine wpAnyH_take (i := 0) (v := _) rfl (by kernel_rfl) (by kernel_rfl) (by kernel_rfl) (fun _ _ _ h => h) (Or.inr ⟨?_, rfl⟩) (by assumption) ?_; rfl) | (refine wpAnyH_take (i := 0) (v := ?_) rfl (by kernel_rfl) (by kernel_rfl) (by kernel_rfl) (fun _ _ _ h => h) (Or.inl ⟨?_, ?_⟩) (by assumption) ?_; rotate_left; rfl; focus (intro w hSw; (try dsimp only at hSw); go_simp; all_goals (with_reducible rfl)))
                    (try simp only [List.getElem_toArray, List.getElem_cons_zero, List.getElem_cons_succ, Act.put, List.setIfInBounds_toArray, List.set_cons_zero, List.set_cons_succ])
                    first | (refine wpAnyH_take (i := 1) (v := _) rfl (by kernel_rfl) (by kernel_rfl) (by kernel_rfl) (fun _ _ _ h => h) (Or.inr ⟨?_, rfl⟩) (by assumption) ?_; rfl) | (refine wpAnyH_take (i := 1) (v := ?_) rfl (by kernel_rfl) (by kernel_rfl) (by kernel_rfl) (fun _ _ _ h => h) (Or.inl ⟨?_, ?_⟩) (by assumption) ?_; rotate_left; rfl; focus (intro w hSw; (try dsimp only at hSw); go_simp; all_goals (with_reducible rfl)))
                    (try simp only [List.getElem_toArray, List.getElem_cons_zero, List.getElem_cons_succ, Act.put, List.setIfInBounds_toArray, List.set_cons_zero, List.set_cons_succ])
                    first | (refine wpAnyH_take (i := 2) (v := _) rfl (by kernel_rfl) (by kernel_rfl) (by kernel_rfl) (fun _ _ _ h => h) (Or.inr ⟨?_, rfl⟩) (by assumption) ?_; rfl) | (refine wpAnyH_take (i := 2) (v := ?_) rfl (by kernel_rfl) (by kernel_rfl) (by kernel_rfl) (fun _ _ _ h => h) (Or.inl ⟨?_, ?_⟩) (by assumption) ?_; rotate_left; rfl; focus (intro w hSw; (try dsimp only at hSw); go_simp; all_goals (with_reducible rfl)))
                    (try simp only [List.getElem_toArray, List.getElem_cons_zero, List.getElem_cons_succ, Act.put, List.setIfInBounds_toArray, List.set_cons_zero, List.set_cons_succ])
                    first | (refine wpAnyH_take (i := 3) (v := _) rfl (by kernel_rfl) (by kernel_rfl) (by kernel_rfl) (fun _ _ _ h => h) (Or.inr ⟨?_, rfl⟩) (by assumption) ?_; rfl) | (refine wpAnyH_take (i := 3) (v := ?_) rfl (by kernel_rfl) (by kernel_rfl) (by kernel_rfl) (fun _ _ _ h => h) (Or.inl ⟨?_, ?_⟩) (by assumption) ?_; rotate_left; rfl; focus (intro w hSw; (try dsimp only at hSw); go_simp; all_goals (with_reducible rfl)))
                    (try simp only [List.getElem_toArray, List.getElem_cons_zero, List.getElem_cons_succ, Act.put, List.setIfInBounds_toArray, List.set_cons_zero, List.set_cons_succ])
                    first | (refine wpAnyH_take (i := 4) (v := _) rfl (by kernel_rfl) (by kernel_rfl) (by kernel_rfl) (fun _ _ _ h => h) (Or.inr ⟨?_, rfl⟩) (by assumption) ?_; rfl) | (refine wpAnyH_take (i := 4) (v := ?_) rfl (by kernel_rfl) (by kernel_rfl) (by kernel_rfl) (fun _ _ _ h => h) (Or.inl ⟨?_, ?_⟩) (by assumption) ?_; rotate_left; rfl; focus (intro w hSw; (try dsimp only at hSw); go_simp; all_goals (with_reducible rfl)))
                    (try simp only [List.getElem_toArray, List.getElem_cons_zero, List.getElem_cons_succ, Act.put, List.setIfInBounds_toArray, List.set_cons_zero, List.set_cons_succ])
                    first | (refine wpAnyH_take (i := 7) (v := _) rfl (by kernel_rfl) (by kernel_rfl) (by kernel_rfl) (fun _ _ _ h => h) (Or.inr ⟨?_, rfl⟩) (by assumption) ?_; rfl) | (refine wpAnyH_take (i := 7) (v := ?_) rfl (by kernel_rfl) (by kernel_rfl) (by kernel_rfl) (fun _ _ _ h => h) (Or.inl ⟨?_, ?_⟩) (by assumption) ?_; rotate_left; rfl; focus (intro w hSw; (try dsimp only at hSw); go_simp; all_goals (with_reducible rfl)))
                    (try simp only [List.getElem_toArray, List.getElem_cons_zero, List.getElem_cons_succ, Act.put, List.setIfInBounds_toArray, List.set_cons_zero, List.set_cons_succ])
                    first | (refine wpAnyH_take (i := 8) (v := _) rfl (by kernel_rfl) (by kernel_rfl) (by kernel_rfl) (fun _ _ _ h => h) (Or.inr ⟨?_, rfl⟩) (by assumption) ?_; rfl) | (refine wpAnyH_take (i := 8) (v := ?_) rfl (by kernel_rfl) (by kernel_rfl) (by kernel_rfl) (fun _ _ _ h => h) (Or.inl ⟨?_, ?_⟩) (by assumption) ?_; rotate_left; rfl; focus (intro w hSw; (try dsimp only at hSw); go_simp; all_goals (with_reducible rfl)))
                    (try simp only [List.getElem_toArray, List.getElem_cons_zero, List.getElem_cons_succ, Act.put, List.setIfInBounds_toArray, List.set_cons_zero, List.set_cons_succ])
                    first | (refine wpAnyH_take (i := 9) (v := _) rfl (by kernel_rfl) (by kernel_rfl) (by kernel_rfl) (fun _ _ _ h => h) (Or.inr ⟨?_, rfl⟩) (by assumption) ?_; rfl) | (refine wpAnyH_take (i := 9) (v := ?_) rfl (by kernel_rfl) (by kernel_rfl) (by kernel_rfl) (fun _ _ _ h => h) (Or.inl ⟨?_, ?_⟩) (by assumption) ?_; rotate_left; rfl; focus (intro w hSw; (try dsimp only at hSw); go_simp; all_goals (with_reducible rfl)))
                    (try simp only [List.getElem_toArray, List.getElem_cons_zero, List.getElem_cons_succ, Act.put, List.setIfInBounds_toArray, List.set_cons_zero, List.set_cons_succ])
                    first | (refine wpAnyH_take (i := 10) (v := _) rfl (by kernel_rfl) (by kernel_rfl) (by kernel_rfl) (fun _ _ _ h => h) (Or.inr ⟨?_, rfl⟩) (by assumption) ?_; rfl) | (refine wpAnyH_take (i := 10) (v := ?_) rfl (by kernel_rfl) (by kernel_rfl) (by kernel_rfl) (fun _ _ _ h => h) (Or.inl ⟨?_, ?_⟩) (by assumption) ?_; rotate_left; rfl; focus (intro w hSw; (try dsimp only at hSw); go_simp; all_goals (with_reducible rfl)))
                    (try simp only [List.getElem_toArray, List.getElem_cons_zero, List.getElem_cons_succ, Act.put, List.setIfInBounds_toArray, List.set_cons_zero, List.set_cons_succ])
                    refine wpAnyH_ready (rs := [5]) (by kernel_rfl) (by simp) ?_
                    refine AllReadyH.cons rfl (fun K hK => ?_) AllReadyH.nil
                    go_simp
                    refine (cx.out _).mono ?_
                    rintro _ w9 ⟨rfl, rfl⟩
                    go_simp
                    refine hK.out _ _ trivial (fun hHeld => ?_)
                    clear hK K
                    (try simp only [List.getElem_toArray, List.getElem_cons_zero, List.getElem_cons_succ, Act.put, List.setIfInBounds_toArray, List.set_cons_zero, List.set_cons_succ])
                    first | (refine wpAnyH_take (i := 6) (v := _) rfl (by kernel_rfl) (by kernel_rfl) (by kernel_rfl) (fun _ _ _ h => h) (Or.inr ⟨?_, rfl⟩) (by assumption) ?_; rfl) | (refine wpAnyH_take (i := 6) (v := ?_) rfl (by kernel_rfl) (by kernel_rfl) (by kernel_rfl) (fun _ _ _ h => h) (Or.inl ⟨?_, ?_⟩) (by assumption) ?_; rotate_left; rfl; focus (intro w hSw; (try dsimp only at hSw); go_simp; all_goals (with_reducible rfl)))
                    (try simp only [List.getElem_toArray, List.getElem_cons_zero, List.getElem_cons_succ, Act.put, List.setIfInBounds_toArray, List.set_cons_zero, List.set_cons_succ])
                    refine wpAnyH_ready (rs := [11]) (by kernel_rfl) (by simp) ?_
                    refine AllReadyH.cons rfl (fun K hK => ?_) AllReadyH.nil
                    go_simp
                    refine (cy.out _).mono ?_
                    rintro _ w9 ⟨rfl, rfl⟩
                    go_simp
                    refine hK.out _ _ trivial (fun hHeld => ?_)
                    clear hK K
                    (try simp only [List.getElem_toArray, List.getElem_cons_zero, List.getElem_cons_succ, Act.put, List.setIfInBounds_toArray, List.set_cons_zero, List.set_cons_succ])
                    first | (refine wpAnyH_take (i := 12) (v := _) rfl (by kernel_rfl) (by kernel_rfl) (by kernel_rfl) (fun _ _ _ h => h) (Or.inr ⟨?_, rfl⟩) (by assumption) ?_; rfl) | (refine wpAnyH_take (i := 12) (v := ?_) rfl (by kernel_rfl) (by kernel_rfl) (by kernel_rfl) (fun _ _ _ h => h) (Or.inl ⟨?_, ?_⟩) (by assumption) ?_; rotate_left; rfl; focus (intro w hSw; (try dsimp only at hSw); go_simp; all_goals (with_reducible rfl)))
                    (try simp only [List.getElem_toArray, List.getElem_cons_zero, List.getElem_cons_succ, Act.put, List.setIfInBounds_toArray, List.set_cons_zero, List.set_cons_succ])
                    first | (refine wpAnyH_take (i := 13) (v := _) rfl (by kernel_rfl) (by kernel_rfl) (by kernel_rfl) (fun _ _ _ h => h) (Or.inr ⟨?_, rfl⟩) (by assumption) ?_; rfl) | (refine wpAnyH_take (i := 13) (v := ?_) rfl (by kernel_rfl) (by kernel_rfl) (by kernel_rfl) (fun _ _ _ h => h) (Or.inl ⟨?_, ?_⟩) (by assumption) ?_; rotate_left; rfl; focus (intro w hSw; (try dsimp only at hSw); go_simp; all_goals (with_reducible rfl)))
                    (try simp only [List.getElem_toArray, List.getElem_cons_zero, List.getElem_cons_succ, Act.put, List.setIfInBounds_toArray, List.set_cons_zero, List.set_cons_succ])
                    refine wpAnyH_ready (rs := [14]) (by kernel_rfl) (by simp) ?_
                    refine AllReadyH.cons rfl (fun K hK => ?_) AllReadyH.nil
                    go_simp
                    refine hK.out _ _ trivial (fun hHeld => ?_)
                    clear hK K
                    (try simp only [List.getElem_toArray, List.getElem_cons_zero, List.getElem_cons_succ, Act.put, List.setIfInBounds_toArray, List.set_cons_zero, List.set_cons_succ])
                    refine wpAnyH_ready (rs := [15]) (by kernel_rfl) (by simp) ?_
                    refine AllReadyH.cons rfl (fun K hK => ?_) AllReadyH.nil
                    refine step_append_any (wr.alloc (.cells #[.int .u8 ((p : Int) * 16 + (q : Int))] 5)).drew (by rfl) (.tmp 60) (.tmp 74) 28 (by rfl) w.heap.size 5 i0 (.int .u8 0) 1 1 Tryz.underlying28 hi hz0 hz1 hz2 rfl (by decide) u6 o.length (Lib.byteCells o) (by rfl) ((hown.alloc _).drew) (wr.heap.size + 1) (some ⟨wr.heap.size, 0, none⟩) 1 1 [.int .u8 ((p : Int) * 16 + (q : Int))] (by rfl) hrd (by simp [Value.oneCell']) (by unfold maxLen; omega) (by omega) (by have := hbl.size; simp; omega) ?_
                    intro v' w2 hown2 hg2 hat2
                    refine hK.out _ _ trivial (fun hHeld => ?_)
                    clear hK K
                    (try simp only [List.getElem_toArray, List.getElem_cons_zero, List.getElem_cons_succ, Act.put, List.setIfInBounds_toArray, List.set_cons_zero, List.set_cons_succ])
                    first | (refine wpAnyH_take (i := 16) (v := _) rfl (by kernel_rfl) (by kernel_rfl) (by kernel_rfl) (fun _ _ _ h => h) (Or.inr ⟨?_, rfl⟩) (by assumption) ?_; rfl) | (refine wpAnyH_take (i := 16) (v := ?_) rfl (by kernel_rfl) (by kernel_rfl) (by kernel_rfl) (fun _ _ _ h => h) (Or.inl ⟨?_, ?_⟩) (by assumption) ?_; rotate_left; rfl; focus (intro w hSw; (try dsimp only at hSw); go_simp; all_goals (with_reducible rfl)))
                    (try simp only [List.getElem_toArray, List.getElem_cons_zero, List.getElem_cons_succ, Act.put, List.setIfInBounds_toArray, List.set_cons_zero, List.set_cons_succ])
                    refine wpAnyH_done (by kernel_rfl) ?_ _
                    clear hs1 hs2 hs3 hs4 hs5 g1 g2 g3 g4 g5 g6 g7 g8 hrd hHeld ex ey eb
                    have hbl2 : Below w.heap.size w w2 := ((hbl.alloc hbl.size _).drew).grown hg2 (by have := hbl.size; simp; omega) (fun g hg => by have := hown.lt g hg; omega)
                    have hcs : ([.int .u8 ((p : Int) * 16 + (q : Int))] : List Value) = Lib.byteCells [UInt8.ofNat (p * 16 + q)] := by
                      simp [Lib.byteCells]; omega
                    have hown3 := own_next (o' := o ++ [UInt8.ofNat (p * 16 + q)]) (news := [UInt8.ofNat (p * 16 + q)]) hown2 hcs rfl rfl
                    have HNX := Lib.hid (rdec_next hrd0.out hl2.out HR.out rfl)
                    clear hcs hown2 hg2 hat2 hown hrd0 HR hl2 hbl
                    go_wp2_with fail
                    exact ⟨⟨k + 3, _, by omega, by go_num, by simp; omega, hown3, HNX, hbl2⟩, by simp [intOf]; omega⟩
            · have HR : Hid (rone form (l.drop k) = none) := by
                show _ = _
                rw [hdr.out, rone_cons, hb.out, hp, if_neg (by simp), if_neg (by simpa using h43), if_pos h37, rtwo_short (by rw [List.length_drop]; omega)]
              have hv := Lib.hid (rdec_stop hrd0.out (by omega) HR.out)
              have h37i : ((b : Int) == 37) = true := by rw [beq_iff_eq]; omega
              clear h43 hp hdr hrd0 HR h37
              rcases hcase with rfl | ⟨rfl, hq⟩
              all_goals
                go_wp2_with fail
                refine (cp.out _).mono ?_
                rintro _ w1 ⟨rfl, rfl⟩
                go_wp2_with fail
                go_ret2
                exact ⟨by rw [hv.out]; rfl, hbl⟩
          · have HR : Hid (rone form (l.drop k) = none) := by
              show _ = _
              rw [hdr.out, rone_cons, hb.out, hp, if_neg (by simp), if_neg (by simpa using h43), if_neg h37]
            have hv := Lib.hid (rdec_stop hrd0.out (by omega) HR.out)
            have h37i : ((b : Int) == 37) = false := by rw [beq_eq_false_iff_ne]; omega
            clear h43 hp hdr hrd0 HR h37
            rcases hcase with rfl | ⟨rfl, hq⟩
            all_goals
              go_wp2_with fail
              refine (cp.out _).mono ?_
              rintro _ w1 ⟨rfl, rfl⟩
              go_wp2_with fail
              go_ret2
              exact ⟨by rw [hv.out]; rfl, hbl⟩
      · rw [hp] at cp
        have HR : Hid (rone form (l.drop k) = some (l.getD k 0, 1)) := by
          show _ = _
          rw [hdr.out, rone_cons, hb.out, hp]
          rfl
        have hrd := reads_row wr 5 [.int .u8 (b : Int)]
        have hl2 := Lib.hid (show k < l.length by omega)
        clear hp hdr
        go_wp2_with fail
        refine (cp.out _).mono ?_
        rintro _ w1 ⟨rfl, rfl⟩
        go_wp2_with (at_builtin; refine wpList_append_any (wr.alloc (.cells #[.int .u8 (b : Int)] 5)) rfl (.tmp 21) (.tmp 23) 28 rfl w.heap.size 5 i0 (.int .u8 0) 1 1 Tryz.underlying28 hi hz0 hz1 hz2 rfl (by decide) u6 o.length (Lib.byteCells o) rfl (hown.alloc _) (wr.heap.size + 1) _ 1 1 [.int .u8 (b : Int)] rfl hrd (by simp [Value.oneCell']) (by unfold maxLen; omega) (by omega) (by have := hbl.size; simp; omega) ?_; intro v' w2 hown2 hg2 hat2)
        have hbl2 : Below w.heap.size w w2 := (hbl.alloc hbl.size _).grown hg2 (by have := hbl.size; simp; omega) (fun g hg => by have := hown.lt g hg; omega)
        have hown3 := own_next (o' := o ++ [l.getD k 0]) (news := [l.getD k 0]) hown2 (cells_one hb.out) rfl rfl
        exact ⟨⟨k + 1, o ++ [l.getD k 0], by omega, by go_num, by simp; omega, hown3, rdec_next hrd0.out hl2.out HR.out rfl, hbl2⟩, by simp [intOf]; omega⟩
    · obtain rfl : k = s.size := by omega
      obtain ⟨A, c, rfl, hnc, hrd⟩ := own_reads hown (Nat.le_refl _)
      have hst := reads_str (P := Tryz.prog) (c := c) hrd 28 9 5 Tryz.underlying28 Tryz.underlying5 Tryz.underlying9
      have ce := Lib.hid (fun w => renc_walk ⟨o.toArray⟩ o (by simp) form w (by show o.toArray.size ≤ _; rw [List.size_toArray]; omega))
      have hrl : rdecL form l = some o := by
        rw [hrd0.out, ← hsz, List.drop_length, rdecL_nil]
        simp
      have hdl := decL_ref form l
      rw [hrl] at hdl
      simp only at hdl
      obtain ⟨z, hz⟩ : ∃ z, ByteArray.mk (encL form o).toArray = z := ⟨_, rfl⟩
      rw [hz] at ce
      by_cases he : encL form o = l
      · rw [if_pos he] at hdl
        have hzs : z = s := by rw [← hz, he]; exact str_eq (by rw [hs])
        subst hzs
        have HV := Lib.hid hdl
        clear hdl he hz hrl hrd0
        go_wp2_with fail
        refine (ce.out _).mono ?_
        rintro _ w1 ⟨rfl, hb1⟩
        have hst2 := reads_str (P := Tryz.prog) (c := c) (hrd.below hb1) 28 9 5 Tryz.underlying28 Tryz.underlying5 Tryz.underlying9
        go_wp2_with fail
        go_ret2
        exact ⟨by rw [HV.out]; rfl, hbl.trans (hb1.mono hbl.size)⟩
      · rw [if_neg he] at hdl
        have hzt : (z.toList == s.toList) = false := by
          rw [beq_eq_false_iff_ne, Lib.toList_data, Lib.toList_data, hs, ← hz]
          simpa using he
        have HV := Lib.hid hdl
        clear hdl he hz hrl hrd hrd0
        go_wp2_with fail
        refine (ce.out _).mono ?_
        rintro _ w1 ⟨rfl, hb1⟩
        go_wp2_with fail
        go_ret2
        exact ⟨by rw [HV.out]; rfl, hbl.trans (hb1.mono hbl.size)⟩
end
section
open Go.RowKit Pc
/-- the sixteen digits stand in their variable -/
def DigOk (w : World) : Prop := 3 < w.heap.size ∧ ∀ i, i < 16 → w.cell? ⟨3, i, none⟩ = some (.int .i32 (hx i : Nat))
theorem DigOk.below {w w' : World} (h : DigOk w) (hb : Below w.heap.size w w') : DigOk w' :=
  ⟨Nat.lt_of_lt_of_le h.1 hb.size, fun i hi => (hb.cell (p := ⟨3, i, none⟩) h.1).trans (h.2 i hi)⟩
theorem dg_of_hx {i : Nat} (h : i < 16) : dgI (hx i) = i := by
  have : ∀ n : Fin 16, dgI (hx n.val) = n.val := by decide
  exact this ⟨i, h⟩
theorem dg_no {c : Nat} (h : ∀ j, j < 16 → hx j ≠ c) : dgI c = -1 := by
  unfold dgI
  cases hd : dg c with
  | none => rfl
  | some x =>
    obtain ⟨h1, h2⟩ := dg_hx hd
    exact absurd h2 (h x h1)
set_option maxHeartbeats 1000000 in
theorem index_walk (c : Nat) (w : World) (hd : DigOk w) (hc : c < 256) :
    Calls Tryz.prog 112 #[.slice (some ⟨3, 0, none⟩) 16 16, .int .i32 (c : Int)] w fun e w' => e = .returned (.int .i64 (dgI c)) ∧ w = w' := by
  obtain ⟨hd0, hd1⟩ := hd
  have HD := Lib.hid hd1
  clear hd1
  go_enter Tryz.func112, Tryz.ntmps112
  go_wp2_with fail
  go_loopw [8] (fun nv wr => ∃ i : Nat, i ≤ 16 ∧ nv = .int .i64 i ∧ Hid (∀ j, j < i → hx j ≠ c) ∧ w = wr) (fun nv _ => 16 - (intOf nv).toNat)
  case atStart => exact ⟨0, by omega, rfl, fun j hj => by omega, rfl⟩
  case round =>
    obtain ⟨i, hi, rfl, hno, rfl⟩ := hrel
    by_cases hlt : i < 16
    · obtain ⟨x, hx1, hx2⟩ : ∃ x : Nat, Hid (hx i = x) ∧ w.cell? ⟨3, i, none⟩ = some (.int .i32 (x : Int)) := ⟨_, rfl, HD.out i hlt⟩
      by_cases he : x = c
      · have hv : Hid (dgI c = i) := by show _ = _; rw [← he, ← hx1.out]; exact dg_of_hx hlt
        have hq : ((c : Int) == (x : Int)) = true := by rw [beq_iff_eq]; omega
        clear he
        go_wp2_with fail
        go_ret
        exact ⟨by rw [hv.out]; rfl, rfl⟩
      · have hq : ((c : Int) == (x : Int)) = false := by rw [beq_eq_false_iff_ne]; omega
        have HN : Hid (∀ j, j < i + 1 → hx j ≠ c) := fun j hj => by
          rcases Nat.lt_or_ge j i with h | h
          · exact hno.out j h
          · rw [show j = i by omega, hx1.out]; exact he
        clear he
        go_wp2_with fail
        exact ⟨⟨i + 1, by omega, by go_num, HN, trivial⟩, by simp [intOf]; omega⟩
    · have hv : Hid (dgI c = -1) := dg_no (fun j hj => hno.out j (by omega))
      go_wp2_with fail
      go_ret
      exact ⟨by rw [hv.out]; rfl, rfl⟩
end
section
open Go.RowKit Pc
theorem run_index_at {P : Program} (T : TypeId) (hT : P.underlying T = some .string) (t : ByteArray) (k a : Nat) (hk : k < t.size) (ha : (t[k]'hk).toNat = a) (W : World) : (Instr.index T (.string t) (.int .i64 (k : Int))).run P W = .ok (.int .u8 (a : Int)) W := by
  rw [run_index_string W _ _ _ _ hT, dif_pos ⟨by omega, by omega⟩]
  simp [ha]
theorem or_and : ∀ p q : Fin 16, bits .or .i64 ((p.val : Int) * 16) (bits .and .i64 (q.val : Int) 15) % 256 = ((p.val * 16 + q.val : Nat) : Int) := by decide +kernel
/-- some byte, and no -/
def NoByte (w : World) (e : Ending) (w' : World) : Prop := ∃ v : Nat, v < 256 ∧ e = .returned (.tuple #[.int .u8 (v : Int), .bool false]) ∧ ∃ n, w' = w.drewN n
set_option maxHeartbeats 1000000 in
theorem byByte_short (t : ByteArray) (w : World) (h : t.size < 2) : Calls Tryz.prog 111 #[.string t] w (NoByte w) := by
  have h' : (t.size : Int) < 2 := by omega
  go_enter Tryz.func111, Tryz.ntmps111
  go_wp2_with fail
  go_ret2
  exact ⟨0, by omega, rfl, 0, rfl⟩
set_option maxHeartbeats 1000000 in
theorem byByte_yes (t : ByteArray) (a b p q : Nat) (w : World) (hd : DigOk w) (h : 2 ≤ t.size) (ha : (t[0]'(by omega)).toNat = a) (hb : (t[1]'(by omega)).toNat = b) (ha2 : a < 256) (hb2 : b < 256) (hm : t.size ≤ 1000000) (hp : dg a = some p) (hq : dg b = some q) :
    Calls Tryz.prog 111 #[.string t] w fun e w' => e = .returned (.tuple #[.int .u8 (p * 16 + q : Nat), .bool true]) ∧ ∃ n, w' = w.drewN n := by
  have c1 := Lib.hid (fun n => index_walk a (w.drewN n) hd ha2)
  have c2 := Lib.hid (fun n => index_walk b (w.drewN n) hd hb2)
  rw [dgI_some hp] at c1
  rw [dgI_some hq] at c2
  have hp16 := (dg_hx hp).1
  have hq16 := (dg_hx hq).1
  have HV : Hid (bits .or .i64 ((p : Int) * 16) (bits .and .i64 (q : Int) 15) % 256 = ((p * 16 + q : Nat) : Int)) := or_and ⟨p, hp16⟩ ⟨q, hq16⟩
  have i0 : ∀ W, (Instr.index 9 (.string t) (.int .i64 0)).run Tryz.prog W = .ok (.int .u8 (a : Int)) W := fun W => run_index_at 9 Tryz.underlying9 t 0 a _ ha W
  have i1 : ∀ W, (Instr.index 9 (.string t) (.int .i64 1)).run Tryz.prog W = .ok (.int .u8 (b : Int)) W := fun W => run_index_at 9 Tryz.underlying9 t 1 b _ hb W
  have s1 : IntKind.i32.wrap (a : Int) = (a : Int) := by rw [IntKind.wrap_i32]; omega
  have s2 : IntKind.i32.wrap (b : Int) = (b : Int) := by rw [IntKind.wrap_i32]; omega
  clear hd ha hb hp hq
  go_enter Tryz.func111, Tryz.ntmps111
  go_wp2_with fail
  go_quiet ((go_at_call 112; first | (with_reducible exact quiet_left (c1.out _)) | (with_reducible exact quiet_left (c2.out _))))
  clear i0 i1 s1 s2
  go_wp2_with fail
  go_ret2
  exact ⟨by rw [← HV.out]; rfl, _, rfl⟩
theorem noByte_of {w w' : World} {X : Int} {n : Nat} (h0 : 0 ≤ X) (h1 : X < 256) (hw : w' = w.drewN n) : NoByte w (.returned (.tuple #[.int .u8 X, .bool false])) w' :=
  ⟨X.toNat, by omega, by rw [Int.toNat_of_nonneg h0], n, hw⟩
set_option maxHeartbeats 1000000 in
theorem byByte_no (t : ByteArray) (a b : Nat) (w : World) (hd : DigOk w) (h : 2 ≤ t.size) (ha : (t[0]'(by omega)).toNat = a) (hb : (t[1]'(by omega)).toNat = b) (ha2 : a < 256) (hb2 : b < 256) (hm : t.size ≤ 1000000) (hno : dg a = none ∨ dg b = none) :
    Calls Tryz.prog 111 #[.string t] w (NoByte w) := by
  have c1 := Lib.hid (fun n => index_walk a (w.drewN n) hd ha2)
  have c2 := Lib.hid (fun n => index_walk b (w.drewN n) hd hb2)
  have hcase : (∃ q : Nat, q < 16 ∧ dgI a = -1 ∧ dgI b = q) ∨ (∃ p : Nat, p < 16 ∧ dgI a = p ∧ dgI b = -1) ∨ (dgI a = -1 ∧ dgI b = -1) := by
    cases da : dg a with
    | none =>
      cases db : dg b with
      | none => exact .inr (.inr ⟨dgI_none da, dgI_none db⟩)
      | some q => exact .inl ⟨q, (dg_hx db).1, dgI_none da, dgI_some db⟩
    | some p =>
      cases db : dg b with
      | none => exact .inr (.inl ⟨p, (dg_hx da).1, dgI_some da, dgI_none db⟩)
      | some q => rw [da, db] at hno; simp at hno
  have i0 : ∀ W, (Instr.index 9 (.string t) (.int .i64 0)).run Tryz.prog W = .ok (.int .u8 (a : Int)) W := fun W => run_index_at 9 Tryz.underlying9 t 0 a _ ha W
  have i1 : ∀ W, (Instr.index 9 (.string t) (.int .i64 1)).run Tryz.prog W = .ok (.int .u8 (b : Int)) W := fun W => run_index_at 9 Tryz.underlying9 t 1 b _ hb W
  have s1 : IntKind.i32.wrap (a : Int) = (a : Int) := by rw [IntKind.wrap_i32]; omega
  have s2 : IntKind.i32.wrap (b : Int) = (b : Int) := by rw [IntKind.wrap_i32]; omega
  clear hd ha hb hno
  rcases hcase with ⟨q, hq, e1, e2⟩ | ⟨p, hp, e1, e2⟩ | ⟨e1, e2⟩
  all_goals
    rw [e1] at c1
    rw [e2] at c2
    clear e1 e2
    go_enter Tryz.func111, Tryz.ntmps111
    go_wp2_with fail
    go_quiet ((go_at_call 112; first | (with_reducible exact quiet_left (c1.out _)) | (with_reducible exact quiet_left (c2.out _))))
    clear i0 i1 s1 s2
    go_wp2_with fail
    go_ret2
    exact noByte_of (Int.emod_nonneg _ (by decide)) (Int.emod_lt_of_pos _ (by decide)) rfl
end
section
open Go.RowKit Pc
def oneV (r : Option (UInt8 × Nat)) : Value := match r with
  | some (c, n) => .tuple #[.int .u8 (c.toNat : Int), .int .i64 (n : Int)]
  | none => .tuple #[.int .u8 0, .int .i64 0]
theorem bare_any (v : Nat) (form : Bool) (hv : v < 256) : ∃ (r : Nat) (o : Bool), ∀ w, Calls Tryz.prog 110 #[.int .u8 (v : Int), .bool form] w fun e w' => e = .returned (.tuple #[.int .i32 (r : Int), .bool o]) ∧ w = w' :=
  ⟨_, _, fun w => bare_walk v form w hv⟩
set_option maxHeartbeats 400000 in
theorem one_plus (t : ByteArray) (w : World) (h0 : 0 < t.size) (ec : (t[0]'h0).toNat = 43) :
    Calls Tryz.prog 109 #[.string t, .bool true] w fun e w' => e = .returned (.tuple #[.int .u8 32, .int .i64 1]) ∧ w = w' := by
  go_enter Tryz.func109, Tryz.ntmps109
  go_wp2_with fail
  go_ret2
  exact ⟨rfl, rfl⟩
set_option maxHeartbeats 400000 in
theorem one_sign (t : ByteArray) (c : Nat) (form : Bool) (w : World) (h0 : 0 < t.size) (ec : (t[0]'h0).toNat = c) (hc : c < 256) (h37 : ((c : Int) == 37) = false) (hcase : form = false ∨ form = true ∧ ((c : Int) == 43) = false) :
    Calls Tryz.prog 109 #[.string t, .bool form] w fun e w' => e = .returned (if plainB c then .tuple #[.int .u8 (c : Int), .int .i64 1] else .tuple #[.int .u8 0, .int .i64 0]) ∧ w = w' := by
  have cb := Lib.hid (fun w => bare_walk c false w hc)
  rw [show bareB c false = plainB c from rfl] at cb
  have h37n : ((c : Int) != 37) = true := by simpa using h37
  cases hp : plainB c <;> rw [hp] at cb <;> clear hp
  all_goals
    rcases hcase with rfl | ⟨rfl, hq⟩
    all_goals
      go_enter Tryz.func109, Tryz.ntmps109
      go_wp2_with fail
      refine (cb.out _).mono ?_
      rintro _ w1 ⟨rfl, rfl⟩
      go_wp2_with fail
      go_ret2
      exact ⟨rfl, rfl⟩
set_option maxHeartbeats 400000 in
theorem one_no (t : ByteArray) (form : Bool) (w : World) (h0 : 0 < t.size) (ec : (t[0]'h0).toNat = 37) (cb : Hid (Calls Tryz.prog 111 #[.string (t.extract 1 t.size)] w (NoByte w))) :
    Calls Tryz.prog 109 #[.string t, .bool form] w fun e w' => e = .returned (.tuple #[.int .u8 0, .int .i64 0]) ∧ ∃ n, w' = w.drewN n := by
  have h1 : (1 : Int) ≤ t.size := by omega
  cases form
  all_goals
    go_enter Tryz.func109, Tryz.ntmps109
    go_wp2_with fail
    refine cb.out.mono ?_
    rintro _ w1 ⟨v, hv, rfl, n, rfl⟩
    obtain ⟨rr, oo, cbare⟩ := bare_any v _ hv
    have CR := Lib.hid cbare
    clear cbare
    go_wp2_with fail
    refine (CR.out _).mono ?_
    rintro _ w2 ⟨rfl, rfl⟩
    go_wp2_with fail
    go_ret2
    exact ⟨rfl, _, rfl⟩
set_option maxHeartbeats 400000 in
theorem one_yes (t : ByteArray) (form : Bool) (v : Nat) (w : World) (h0 : 0 < t.size) (ec : (t[0]'h0).toNat = 37) (hv : v < 256) (cb : Hid (Calls Tryz.prog 111 #[.string (t.extract 1 t.size)] w fun e w' => e = .returned (.tuple #[.int .u8 (v : Int), .bool true]) ∧ ∃ n, w' = w.drewN n)) :
    Calls Tryz.prog 109 #[.string t, .bool form] w fun e w' => e = .returned (if bareB v form then .tuple #[.int .u8 0, .int .i64 0] else .tuple #[.int .u8 (v : Int), .int .i64 3]) ∧ ∃ n, w' = w.drewN n := by
  have h1 : (1 : Int) ≤ t.size := by omega
  have cr := Lib.hid (fun w => bare_walk v form w hv)
  obtain ⟨rr, hrr⟩ : ∃ rr, bareR v form = rr := ⟨_, rfl⟩
  rw [hrr] at cr
  clear hrr
  cases ho : bareB v form <;> rw [ho] at cr <;> clear ho <;> cases form
  all_goals
    go_enter Tryz.func109, Tryz.ntmps109
    go_wp2_with fail
    refine cb.out.mono ?_
    rintro _ w1 ⟨rfl, n, rfl⟩
    go_wp2_with fail
    refine (cr.out _).mono ?_
    rintro _ w2 ⟨rfl, rfl⟩
    go_wp2_with fail
    go_ret2
    exact ⟨rfl, _, rfl⟩
theorem one_walk (t : ByteArray) (x : UInt8) (r : List UInt8) (hs : t.data.toList = x :: r) (form : Bool) (w : World) (hd : DigOk w) (hm : t.size ≤ 1000000) :
    Calls Tryz.prog 109 #[.string t, .bool form] w fun e w' => e = .returned (oneV (one form (x :: r))) ∧ ∃ n, w' = w.drewN n := by
  have hsz : t.size = r.length + 1 := by rw [Lib.size_eq, hs]; rfl
  have h0 : 0 < t.size := by omega
  have ec : (t[0]'h0).toNat = x.toNat := by rw [str_at hs h0]; rfl
  rw [one_cons]
  by_cases h43 : (form && x.toNat == 43) = true
  · rw [if_pos h43]
    simp only [Bool.and_eq_true, beq_iff_eq] at h43
    obtain ⟨rfl, hx⟩ := h43
    exact (one_plus t w h0 (ec.trans hx)).mono fun e w' ⟨he, hw⟩ => ⟨he, 0, hw.symm⟩
  · rw [if_neg h43]
    by_cases h37 : x.toNat = 37
    · have hx2 : (t.extract 1 t.size).data.toList = r := by rw [Lib.extract_to_end, hs]; rfl
      have hs2 : (t.extract 1 t.size).size = r.length := by rw [Lib.size_eq, hx2]
      rw [if_neg (by omega)]
      match r, hx2, hs2 with
      | [], hx2, hs2 => exact one_no t form w h0 (ec.trans h37) (byByte_short _ w (by rw [hs2]; simp))
      | [_], hx2, hs2 => exact one_no t form w h0 (ec.trans h37) (byByte_short _ w (by rw [hs2]; simp))
      | a :: b :: r2, hx2, hs2 =>
        have hl : 2 ≤ (t.extract 1 t.size).size := by rw [hs2]; simp
        have ha : ((t.extract 1 t.size)[0]'(by omega)).toNat = a.toNat := by rw [str_at hx2 (by omega)]; rfl
        have hb : ((t.extract 1 t.size)[1]'(by omega)).toNat = b.toNat := by rw [str_at hx2 (by omega)]; rfl
        have hm2 : (t.extract 1 t.size).size ≤ 1000000 := by simp; omega
        simp only
        cases da : dg a.toNat with
        | none =>
          rw [two, da]
          exact one_no t form w h0 (ec.trans h37) (byByte_no _ _ _ w hd hl ha hb a.toNat_lt b.toNat_lt hm2 (.inl da))
        | some p =>
          cases db : dg b.toNat with
          | none =>
            rw [two, da, db]
            exact one_no t form w h0 (ec.trans h37) (byByte_no _ _ _ w hd hl ha hb a.toNat_lt b.toNat_lt hm2 (.inr db))
          | some q =>
            rw [two, da, db]
            have hp := (dg_hx da).1
            have hq := (dg_hx db).1
            refine (one_yes t form (p * 16 + q) w h0 (ec.trans h37) (by omega) (byByte_yes _ _ _ p q w hd hl ha hb a.toNat_lt b.toNat_lt hm2 da db)).mono fun e w' ⟨he, hw⟩ => ⟨?_, hw⟩
            rw [he]
            simp only
            have hbe : bareB (p * 16 + q) form = (plainB (p * 16 + q) || form && p * 16 + q == 32) := by rw [bareB, Bool.or_comm]
            by_cases hbb : (plainB (p * 16 + q) || form && p * 16 + q == 32) = true
            · rw [if_pos hbb, if_pos (hbe.trans hbb)]; rfl
            · rw [if_neg hbb, if_neg (fun h => hbb (hbe.symm.trans h))]
              have : (UInt8.ofNat (p * 16 + q)).toNat = p * 16 + q := by simp; omega
              simp only [Option.map_some, oneV, this]
              rfl
    · rw [if_pos (by omega)]
      refine (one_sign t x.toNat form w h0 ec x.toNat_lt (by rw [beq_eq_false_iff_ne]; omega) ?_).mono fun e w' ⟨he, hw⟩ => ⟨?_, 0, hw.symm⟩
      · cases form
        · exact .inl rfl
        · right
          refine ⟨rfl, ?_⟩
          simp at h43
          rw [beq_eq_false_iff_ne]; omega
      · rw [he]
        by_cases hp : plainB x.toNat = true
        · rw [if_pos hp, if_pos hp]; rfl
        · rw [if_neg hp, if_neg hp]; rfl
end
section
open Go.RowKit Pc
set_option maxHeartbeats 2000000 in
theorem dec_walk (s : ByteArray) (l : List UInt8) (hs : s.data.toList = l) (form : Bool) (w : World) (hd : DigOk w) (hm : s.size ≤ 1000000) :
    Calls Tryz.prog 107 #[.string s, .bool form] w fun e w' => e = .returned (decV (decL form l)) ∧ Below w.heap.size w w' := by
  obtain ⟨i0, hi, hz0, hz1, hz2⟩ := info_parts info_u8
  have HD := Lib.hid hd
  clear hd
  go_enter Tryz.func107, Tryz.ntmps107
  go_wp2_with fail
  go_loopw [0, 6] (fun sv ov wr => ∃ (t : ByteArray) (o : List UInt8), sv = .string t ∧ wr.ownsRow w.heap.size 5 1 ov o.length (Lib.byteCells o) ∧ Hid (decL form l = (decL form t.data.toList).map (o ++ ·)) ∧ o.length + t.size ≤ s.size ∧ Below w.heap.size w wr) (fun sv _ _ => vLen sv)
  case atStart => exact ⟨s, [], rfl, World.ownsRow_nil _ _ _ _, by rw [hs]; show _ = _; simp, by simp, Below.refl _ _⟩
  case round =>
    obtain ⟨t, o, rfl, hown, hdec, hsz, hbl⟩ := hrel
    by_cases h0 : t.size = 0
    · have he : t.toList = [] := str_nil h0
      obtain ⟨A, c, rfl, hnc, hrd⟩ := own_reads hown (Nat.le_refl _)
      have hst := reads_str (P := Tryz.prog) (c := c) hrd 28 9 5 Tryz.underlying28 Tryz.underlying5 Tryz.underlying9
      have HV : Hid (decL form l = some o) := by
        show _ = _
        rw [hdec.out, show t.data.toList = [] from List.eq_nil_of_length_eq_zero (by simpa using h0), decL_nil]
        simp
      clear hrd hdec
      go_wp2_with fail
      go_ret2
      exact ⟨by rw [HV.out]; rfl, hbl⟩
    · have he : t.toList.isEmpty = false := (str_ne h0).1
      have he2 : ¬ t.toList = [] := (str_ne h0).2
      obtain ⟨x, r, hxr⟩ : ∃ x r, t.data.toList = x :: r := by
        cases hh : t.data.toList with
        | nil => exact absurd (by rw [Lib.size_eq, hh]; rfl) h0
        | cons x r => exact ⟨x, r, rfl⟩
      have hstep := decL_step form (x :: r) (by simp)
      have c1 := Lib.hid (one_walk t x r hxr form wr (HD.out.below hbl) (by omega))
      rw [hxr] at hdec
      cases ho : one form (x :: r) with
      | none =>
        rw [ho] at c1 hstep
        have HV : Hid (decL form l = none) := by show _ = _; rw [hdec.out, hstep]; rfl
        rw [show oneV none = .tuple #[.int .u8 0, .int .i64 0] from rfl] at c1
        clear hdec hstep ho
        go_wp2_with fail
        refine c1.out.mono ?_
        rintro _ w1 ⟨rfl, n, rfl⟩
        go_wp2_with fail
        go_ret2
        exact ⟨by rw [HV.out]; rfl, below_drewN hbl n⟩
      | some p =>
        obtain ⟨y, m⟩ := p
        obtain ⟨hm1, hm2⟩ := one_pos ho
        have hml : m ≤ t.size := by rw [Lib.size_eq, hxr]; exact hm2
        rw [ho] at c1 hstep
        have HN : Hid (decL form l = (decL form (t.extract m t.size).data.toList).map ((o ++ [y]) ++ ·)) := by
          show _ = _
          rw [hdec.out, hstep, Lib.extract_to_end, hxr]
          simp only [Option.map_map]
          congr 1
          funext z
          simp
        have hy2 := y.toNat_lt
        obtain ⟨yv, hyv⟩ : ∃ yv : Nat, y.toNat = yv := ⟨_, rfl⟩
        have hm0 : ((m : Int) == 0) = false := by rw [beq_eq_false_iff_ne]; omega
        have hmI : (0 : Int) ≤ m := by omega
        have hmI2 : (m : Int) ≤ t.size := by omega
        have HY := Lib.hid hyv
        rw [show oneV (some (y, m)) = .tuple #[.int .u8 (y.toNat : Int), .int .i64 (m : Int)] from rfl, hyv] at c1
        clear hdec hstep ho hyv hy2
        go_wp2_with fail
        refine c1.out.mono ?_
        rintro _ w1 ⟨rfl, n, rfl⟩
        go_wp2_with fail
        refine wp_region_held_drew (S := fun _ => True) (by kernel_rfl) trivial (fun hHeld => ?_)
        first | (refine wpAnyH_take (i := 0) (v := _) rfl (by kernel_rfl) (by kernel_rfl) (by kernel_rfl) (fun _ _ _ h => h) (Or.inr ⟨?_, rfl⟩) (by assumption) ?_; rfl) | (refine wpAnyH_take (i := 0) (v := ?_) rfl (by kernel_rfl) (by kernel_rfl) (by kernel_rfl) (fun _ _ _ h => h) (Or.inl ⟨?_, ?_⟩) (by assumption) ?_; rotate_left; rfl; focus (intro w hSw; (try dsimp only at hSw); go_simp; all_goals (with_reducible rfl)))
        (try simp only [List.getElem_toArray, List.getElem_cons_zero, List.getElem_cons_succ, Act.put, List.setIfInBounds_toArray, List.set_cons_zero, List.set_cons_succ])
        first | (refine wpAnyH_take (i := 1) (v := _) rfl (by kernel_rfl) (by kernel_rfl) (by kernel_rfl) (fun _ _ _ h => h) (Or.inr ⟨?_, rfl⟩) (by assumption) ?_; rfl) | (refine wpAnyH_take (i := 1) (v := ?_) rfl (by kernel_rfl) (by kernel_rfl) (by kernel_rfl) (fun _ _ _ h => h) (Or.inl ⟨?_, ?_⟩) (by assumption) ?_; rotate_left; rfl; focus (intro w hSw; (try dsimp only at hSw); go_simp; all_goals (with_reducible rfl)))
        (try simp only [List.getElem_toArray, List.getElem_cons_zero, List.getElem_cons_succ, Act.put, List.setIfInBounds_toArray, List.set_cons_zero, List.set_cons_succ])
        first | (refine wpAnyH_take (i := 4) (v := _) rfl (by kernel_rfl) (by kernel_rfl) (by kernel_rfl) (fun _ _ _ h => h) (Or.inr ⟨?_, rfl⟩) (by assumption) ?_; rfl) | (refine wpAnyH_take (i := 4) (v := ?_) rfl (by kernel_rfl) (by kernel_rfl) (by kernel_rfl) (fun _ _ _ h => h) (Or.inl ⟨?_, ?_⟩) (by assumption) ?_; rotate_left; rfl; focus (intro w hSw; (try dsimp only at hSw); go_simp; all_goals (with_reducible rfl)))
        (try simp only [List.getElem_toArray, List.getElem_cons_zero, List.getElem_cons_succ, Act.put, List.setIfInBounds_toArray, List.set_cons_zero, List.set_cons_succ])
        first | (refine wpAnyH_take (i := 5) (v := _) rfl (by kernel_rfl) (by kernel_rfl) (by kernel_rfl) (fun _ _ _ h => h) (Or.inr ⟨?_, rfl⟩) (by assumption) ?_; rfl) | (refine wpAnyH_take (i := 5) (v := ?_) rfl (by kernel_rfl) (by kernel_rfl) (by kernel_rfl) (fun _ _ _ h => h) (Or.inl ⟨?_, ?_⟩) (by assumption) ?_; rotate_left; rfl; focus (intro w hSw; (try dsimp only at hSw); go_simp; all_goals (with_reducible rfl)))
        (try simp only [List.getElem_toArray, List.getElem_cons_zero, List.getElem_cons_succ, Act.put, List.setIfInBounds_toArray, List.set_cons_zero, List.set_cons_succ])
        first | (refine wpAnyH_take (i := 6) (v := _) rfl (by kernel_rfl) (by kernel_rfl) (by kernel_rfl) (fun _ _ _ h => h) (Or.inr ⟨?_, rfl⟩) (by assumption) ?_; rfl) | (refine wpAnyH_take (i := 6) (v := ?_) rfl (by kernel_rfl) (by kernel_rfl) (by kernel_rfl) (fun _ _ _ h => h) (Or.inl ⟨?_, ?_⟩) (by assumption) ?_; rotate_left; rfl; focus (intro w hSw; (try dsimp only at hSw); go_simp; all_goals (with_reducible rfl)))
        (try simp only [List.getElem_toArray, List.getElem_cons_zero, List.getElem_cons_succ, Act.put, List.setIfInBounds_toArray, List.set_cons_zero, List.set_cons_succ])
        refine wpAnyH_ready (rs := [2]) (by kernel_rfl) (by simp) ?_
        refine AllReadyH.cons rfl (fun K hK => ?_) AllReadyH.nil
        go_simp
        refine hK.out _ _ trivial (fun hHeld => ?_)
        clear hK K
        (try simp only [List.getElem_toArray, List.getElem_cons_zero, List.getElem_cons_succ, Act.put, List.setIfInBounds_toArray, List.set_cons_zero, List.set_cons_succ])
        refine wpAnyH_ready (rs := [3]) (by kernel_rfl) (by simp) ?_
        refine AllReadyH.cons rfl (fun K hK => ?_) AllReadyH.nil
        refine step_append_any ((wr.drewN (n + 1)).alloc (.cells #[.int .u8 (yv : Int)] 5)) (by rfl) (.tmp 19) (.tmp 21) 28 (by rfl) w.heap.size 5 i0 (.int .u8 0) 1 1 Tryz.underlying28 hi hz0 hz1 hz2 rfl (by decide) u6 o.length (Lib.byteCells o) (by rfl) (World.ownsRow.alloc (w := wr.drewN (n + 1)) hown _) (wr.heap.size + 1) (some ⟨wr.heap.size, 0, none⟩) 1 1 [.int .u8 (yv : Int)] (by rfl) (reads_row (wr.drewN (n + 1)) 5 [.int .u8 (yv : Int)]) (by simp [Value.oneCell']) (by unfold maxLen; omega) (by omega) (by have := hbl.size; simp; omega) ?_
        intro v' w2 hown2 hg2 hat2
        refine hK.out _ _ trivial (fun hHeld => ?_)
        clear hK K
        (try simp only [List.getElem_toArray, List.getElem_cons_zero, List.getElem_cons_succ, Act.put, List.setIfInBounds_toArray, List.set_cons_zero, List.set_cons_succ])
        first | (refine wpAnyH_take (i := 7) (v := _) rfl (by kernel_rfl) (by kernel_rfl) (by kernel_rfl) (fun _ _ _ h => h) (Or.inr ⟨?_, rfl⟩) (by assumption) ?_; rfl) | (refine wpAnyH_take (i := 7) (v := ?_) rfl (by kernel_rfl) (by kernel_rfl) (by kernel_rfl) (fun _ _ _ h => h) (Or.inl ⟨?_, ?_⟩) (by assumption) ?_; rotate_left; rfl; focus (intro w hSw; (try dsimp only at hSw); go_simp; all_goals (with_reducible rfl)))
        (try simp only [List.getElem_toArray, List.getElem_cons_zero, List.getElem_cons_succ, Act.put, List.setIfInBounds_toArray, List.set_cons_zero, List.set_cons_succ])
        first | (refine wpAnyH_take (i := 8) (v := _) rfl (by kernel_rfl) (by kernel_rfl) (by kernel_rfl) (fun _ _ _ h => h) (Or.inr ⟨?_, rfl⟩) (by assumption) ?_; rfl) | (refine wpAnyH_take (i := 8) (v := ?_) rfl (by kernel_rfl) (by kernel_rfl) (by kernel_rfl) (fun _ _ _ h => h) (Or.inl ⟨?_, ?_⟩) (by assumption) ?_; rotate_left; rfl; focus (intro w hSw; (try dsimp only at hSw); go_simp; all_goals (with_reducible rfl)))
        (try simp only [List.getElem_toArray, List.getElem_cons_zero, List.getElem_cons_succ, Act.put, List.setIfInBounds_toArray, List.set_cons_zero, List.set_cons_succ])
        refine wpAnyH_done (by kernel_rfl) ?_ _
        have hbl2 : Below w.heap.size w w2 := ((below_drewN hbl (n + 1)).alloc hbl.size _).grown hg2 (by have := hbl.size; simp; omega) (fun g hg => by have := hown.lt g hg; omega)
        have hown3 := own_next (o' := o ++ [y]) (news := [y]) hown2 (cells_one HY.out) rfl rfl
        have hsz2 : (o ++ [y]).length + (t.extract m t.size).size ≤ s.size := by simp; omega
        have hsz3 : (t.extract m t.size).size < t.size := by simp; omega
        clear hown2 hg2 hat2 hown hHeld
        go_wp2_with fail
        exact ⟨⟨t.extract m t.size, o ++ [y], rfl, hown3, HN, hsz2, hbl2⟩, hsz3⟩
end
section
open Go.RowKit Pc
theorem plain_small : ∀ c : Fin 256, plainB c.val = true → c.val < 128 := by decide +kernel
theorem hx_small (n : Nat) (h : n < 16) : hx n < 128 := by unfold hx; split <;> omega
end
end Go.Proofs.YtekbdfnbnpmclaaGreatDoor

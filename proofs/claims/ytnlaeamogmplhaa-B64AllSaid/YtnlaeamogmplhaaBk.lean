import Derived.Test.YtnlaeamogmplhaaBi
set_option linter.unusedVariables false
namespace Go.Proofs.Ytnlaeamogmplhaa
open Go.RowKit B64
/-- a row of bytes that a conversion made: nothing but the place behind its end is marked -/
def BRow (w : World) (g : Nat) (l : List UInt8) : Prop := ∃ cs fz, w.heap[g]? = some (.cells cs 5 fz) ∧ l.length ≤ fz.1 ∧ l.length ≤ cs.size ∧ ∀ j, j < l.length → cs[j]? = some (.int .u8 ((l.getD j 0).toNat : Int))
theorem BRow.lt {w : World} {g : Nat} {l : List UInt8} (h : BRow w g l) : g < w.heap.size := by
  obtain ⟨cs, fz, hh, _⟩ := h
  exact (Array.getElem?_eq_some_iff.1 hh).1
theorem BRow.cell {w : World} {g : Nat} {l : List UInt8} (h : BRow w g l) {j : Nat} (hj : j < l.length) : w.cell? ⟨g, j, none⟩ = some (.int .u8 ((l.getD j 0).toNat : Int)) := by
  obtain ⟨cs, fz, hh, _, _, hc⟩ := h
  simp [World.cell?, hh, hc j hj]
theorem BRow.frozen {w : World} {g : Nat} {l : List UInt8} (h : BRow w g l) {j : Nat} (hj : j < l.length) : w.frozen? ⟨g, j, none⟩ = false := by
  obtain ⟨cs, fz, hh, hf, _, _⟩ := h
  simp [World.frozen?, hh]
  omega
theorem BRow.set_ {w : World} {g : Nat} {l : List UInt8} (h : BRow w g l) {j : Nat} (hj : j < l.length) (x : Nat) (hx : x < 256) : BRow (w.setCell ⟨g, j, none⟩ (.int .u8 (x : Int))) g (l.set j (UInt8.ofNat x)) := by
  obtain ⟨cs, fz, hh, hf, hs, hc⟩ := h
  refine ⟨cs.setIfInBounds j (.int .u8 (x : Int)), fz, by simp [World.setCell, Array.getElem?_modify, hh], by simpa using hf, by simpa using hs, fun i hi => ?_⟩
  simp only [List.length_set] at hi
  by_cases hij : i = j
  · subst hij
    rw [Array.getElem?_setIfInBounds_self_of_lt (by omega)]
    simp [hi]
    omega
  · rw [Array.getElem?_setIfInBounds_ne (fun e => hij e.symm), hc i hi]
    simp [List.getElem?_set, Ne.symm hij]
theorem BRow.reads {w : World} {g : Nat} {l : List UInt8} (h : BRow w g l) : Reads w w.heap.size 1 (some ⟨g, 0, none⟩) l.length (Lib.byteCells l) := by
  refine ⟨by rw [Lib.byteCells_length]; omega, fun _ => ⟨_, rfl, h.lt, fun j u hu => ?_⟩⟩
  have hj : j < l.length := by
    have := (List.getElem?_eq_some_iff.1 hu).1
    rwa [Lib.byteCells_length] at this
  rw [show ((⟨g, 0, none⟩ : Addr).add j) = ⟨g, j, none⟩ by unfold Addr.add; split <;> simp_all, h.cell hj, ← hu]
  simp [Lib.byteCells, List.getD, List.getElem?_eq_getElem hj]
theorem BRow.new (w : World) (l : List UInt8) : BRow (Lib.bytesWorld w 5 ⟨l.toArray⟩) w.heap.size l := by
  refine ⟨_, _, Lib.bytesWorld_at_new w 5 ⟨l.toArray⟩, ?_, ?_, fun j hj => ?_⟩
  · simp [Lib.bytesCells]
  · simp [Lib.bytesCells]
  · have := Lib.bytesWorld_cell w 5 ⟨l.toArray⟩ j (show j < l.toArray.size by simpa using hj)
    simpa [World.cell?, Lib.bytesWorld_at_new] using this
theorem below_bytes (w : World) (l : List UInt8) : Below w.heap.size w (Lib.bytesWorld w 5 ⟨l.toArray⟩) :=
  ⟨by simp [Lib.bytesWorld, World.freeze]; rfl, by simp [Lib.bytesWorld, World.freeze]; try rfl, by simp [Lib.bytesWorld, World.freeze]; rfl, by rw [Lib.bytesWorld_size]; omega, fun k hk => Lib.bytesWorld_at_old w 5 _ k hk⟩
set_option maxHeartbeats 2000000 in
set_option maxRecDepth 100000 in
theorem all_walk (A : Option Addr) (m c : Nat) (l : List UInt8) (s : ByteArray) (at_ y : Int) (w : World) (hr : Reads w w.heap.size 1 A m (Lib.byteCells l)) (hc : m ≤ c) (hy : 0 ≤ y ∧ y < 256) (hat : -9223372036854775808 ≤ at_ ∧ at_ ≤ 9223372036854775807) :
    Calls Try.prog 3 #[.slice A m c, .string s, .int .i64 at_, .int .u8 y] w fun e w' => e = .returned (.bool true) ∧ Below w.heap.size w w' := by
  obtain ⟨hy0, hy1⟩ := hy
  have hl := hr.get
  by_cases h1 : 400 < m
  · go_enter Try.func3, Try.ntmps3
    go_wp2_with fail
    refine (known_walk w).mono ?_
    rintro e w1 ⟨rfl, hb1⟩
    go_wp2_with fail
    go_ret
    exact ⟨rfl, hb1⟩
  · by_cases h2 : 400 < s.size
    · go_enter Try.func3, Try.ntmps3
      go_wp2_with fail
      refine (known_walk w).mono ?_
      rintro e w1 ⟨rfl, hb1⟩
      go_wp2_with fail
      go_ret
      exact ⟨rfl, hb1⟩
    · have hle := enc_le l
      have hadd := fun w => run_string_add_lists (P := Try.prog) w (enc l) [65, 65] (by omega) (by decide)
      obtain ⟨T, hT, hT1, hT2⟩ : ∃ T, enc l ++ [65, 65] = T ∧ 2 ≤ T.length ∧ T.length ≤ 1000 := ⟨_, rfl, by simp, by simp; omega⟩
      rw [hT] at hadd
      clear hT
      have hcv := fun w => Lib.run_convert_string_bytes (P := Try.prog) w 9 22 5 ⟨T.toArray⟩ Try.underlying9 Try.underlying22 Try.underlying5
      have hTs : (ByteArray.mk T.toArray).size = T.length := by simp [ByteArray.size]
      obtain ⟨yn, rfl⟩ := Int.eq_ofNat_of_zero_le hy0
      obtain ⟨K, hK, hK1, hK2⟩ : ∃ K, at_.tmod (T.length : Int) = K ∧ -(T.length : Int) < K ∧ K < (T.length : Int) :=
        ⟨_, rfl, by have := Int.lt_tmod_of_pos at_ (show (0 : Int) < (T.length : Int) by omega); omega, Int.tmod_lt_of_pos _ (by omega)⟩
      obtain ⟨j, hj, hjj⟩ : ∃ j : Nat, j < T.length ∧ ((K < 0 ∧ K + (T.length : Int) = (j : Int)) ∨ (¬ K < 0 ∧ K = (j : Int))) := by
        by_cases hneg : K < 0
        · exact ⟨(K + T.length).toNat, by omega, .inl ⟨hneg, by omega⟩⟩
        · exact ⟨K.toNat, by omega, .inr ⟨hneg, by omega⟩⟩
      obtain ⟨x, hx, hx2⟩ : ∃ x : Nat, (T.getD j 0).toNat = x ∧ x < 256 := ⟨_, rfl, (T.getD j 0).toNat_lt⟩
      have hbc : ∀ w2, (Lib.bytesWorld w2 5 ⟨T.toArray⟩).cell? ⟨w2.heap.size, j, none⟩ = some (.int .u8 (x : Int)) := fun w2 => by rw [← hx]; exact (BRow.new w2 T).cell hj
      have hbf : ∀ w2, (Lib.bytesWorld w2 5 ⟨T.toArray⟩).frozen? ⟨w2.heap.size, j, none⟩ = false := fun w2 => (BRow.new w2 T).frozen hj
      obtain ⟨z, hz, hz2⟩ : ∃ z : Nat, bits .xor .u8 (x : Int) (yn : Int) = (z : Int) ∧ z < 256 := ⟨_, u8_xor_nat x yn hx2 (by omega), Nat.xor_lt_two_pow (n := 8) hx2 (by omega)⟩
      clear hx
      rcases hjj with ⟨hneg, hjj⟩ | ⟨hneg, hjj⟩
      all_goals
        go_enter Try.func3, Try.ntmps3
        go_wp2_with fail
        refine (known_walk w).mono ?_
        rintro e w1 ⟨rfl, hb1⟩
        go_wp2_with fail
        refine (renc_walk A m c l w1 ((hr.below hb1).more hb1.size) (by omega)).mono ?_
        rintro e w2 ⟨rfl, hb2⟩
        have hbl2 := hb1.trans (hb2.mono hb1.size)
        go_wp2_with fail
        have hB := (BRow.new w2 T).set_ hj z hz2
        have hbl4 : Below w.heap.size w ((Lib.bytesWorld w2 5 ⟨T.toArray⟩).setCell ⟨w2.heap.size, j, none⟩ (.int .u8 (z : Int))) := (hbl2.trans ((below_bytes w2 T).mono hbl2.size)).setCell hbl2.size _
        obtain ⟨cp, hcp, hcp2⟩ : ∃ cp, grownCap w2 T.length 0 5 = cp ∧ T.length ≤ cp := ⟨_, rfl, grownCap_ge _ _ _ _⟩
        rw [hcp]
        obtain ⟨g, hg⟩ : ∃ g, w2.heap.size = g := ⟨_, rfl⟩
        rw [hg] at hB hbl4 ⊢
        generalize (Lib.bytesWorld w2 5 ⟨T.toArray⟩).setCell ⟨g, j, none⟩ (.int .u8 (z : Int)) = W at hB hbl4 ⊢
        obtain ⟨T2, hT2e, hT2l⟩ : ∃ T2, T.set j (UInt8.ofNat z) = T2 ∧ T2.length = T.length := ⟨_, rfl, by simp⟩
        rw [hT2e] at hB
        clear hT2e hcp hg hb1 hb2 hbl2 hz hz2 hbf hbc hcv
        have hRd := hB.reads
        rw [hT2l] at hRd
        obtain ⟨n1, k1, kl1⟩ : ∃ n1 : Nat, ((T.length : Int) - 1 = (n1 : Int)) ∧ n1 ≤ T.length := ⟨T.length - 1, by omega, by omega⟩
        obtain ⟨n2, k2, kl2⟩ : ∃ n2 : Nat, ((T.length : Int) - 2 = (n2 : Int)) ∧ n2 ≤ T.length := ⟨T.length - 2, by omega, by omega⟩
        have kw1 : IntKind.i64.wrap (n1 : Int) = (n1 : Int) := by rw [IntKind.wrap_i64]; omega
        have kw2 : IntKind.i64.wrap (n2 : Int) = (n2 : Int) := by rw [IntKind.wrap_i64]; omega
        have kc1 : (n1 : Int) ≤ (cp : Int) := by omega
        have kc2 : (n2 : Int) ≤ (cp : Int) := by omega
        have kz1 : (0 : Int) ≤ (n1 : Int) := by omega
        have kz2 : (0 : Int) ≤ (n2 : Int) := by omega
        have v0 : ∀ w', Below W.heap.size W w' → (convert 22 9 (.slice (some ⟨g, 0, none⟩) T.length cp)).run Try.prog w' = .ok (.string ⟨T2.toArray⟩) w' := fun w' h => reads_str (hRd.below h) 22 9 5 Try.underlying22 Try.underlying5 Try.underlying9
        have v1 : ∀ w', Below W.heap.size W w' → (convert 22 9 (.slice (some ⟨g, 0, none⟩) n1 cp)).run Try.prog w' = .ok (.string ⟨(T2.take n1).toArray⟩) w' := fun w' h => reads_str ((hRd.frontB (by omega)).below h) 22 9 5 Try.underlying22 Try.underlying5 Try.underlying9
        have v2 : ∀ w', Below W.heap.size W w' → (convert 22 9 (.slice (some ⟨g, 0, none⟩) n2 cp)).run Try.prog w' = .ok (.string ⟨(T2.take n2).toArray⟩) w' := fun w' h => reads_str ((hRd.frontB (by omega)).below h) 22 9 5 Try.underlying22 Try.underlying5 Try.underlying9
        go_region_held3 (fun w' => Below W.heap.size W w') (first | exact (Below.refl _ _).drew | exact ((Below.refl _ _).alloc (Nat.le_refl _) _).drew) (fail)
        have hx5 := Blk.new W 9 #[.string s, .string ⟨T2.toArray⟩, .string ⟨(T2.take n1).toArray⟩, .string ⟨(T2.take n2).toArray⟩]
        have hbl5 := hbl4.alloc hbl4.size (.cells #[.string s, .string ⟨T2.toArray⟩, .string ⟨(T2.take n1).toArray⟩, .string ⟨(T2.take n2).toArray⟩] 9)
        obtain ⟨g2, hg2⟩ : ∃ g2, W.heap.size = g2 := ⟨_, rfl⟩
        rw [hg2] at hx5 ⊢
        generalize W.alloc (.cells #[.string s, .string ⟨T2.toArray⟩, .string ⟨(T2.take n1).toArray⟩, .string ⟨(T2.take n2).toArray⟩] 9) = W2 at *
        have hss : ∀ i, i < 4 → ∃ si : ByteArray, #[Value.string s, .string ⟨T2.toArray⟩, .string ⟨(T2.take n1).toArray⟩, .string ⟨(T2.take n2).toArray⟩][i]? = some (.string si) ∧ si.size ≤ 1000000 := by
          have t1 : (T2.take n1).length ≤ T2.length := List.length_take_le' _ _
          have t2 : (T2.take n2).length ≤ T2.length := List.length_take_le' _ _
          intro i hi
          match i, hi with
          | 0, _ => exact ⟨_, rfl, by omega⟩
          | 1, _ => exact ⟨_, rfl, by simp only [ByteArray.size, List.size_toArray]; omega⟩
          | 2, _ => exact ⟨_, rfl, by simp only [ByteArray.size, List.size_toArray]; omega⟩
          | 3, _ => exact ⟨_, rfl, by simp only [ByteArray.size, List.size_toArray]; omega⟩
          | i + 4, h => omega
        generalize #[Value.string s, .string ⟨T2.toArray⟩, .string ⟨(T2.take n1).toArray⟩, .string ⟨(T2.take n2).toArray⟩] = CS at *
        have HSS := Lib.hid hss
        clear hss hB hRd hT2l hbl4 hg2 k1 k2 kl1 kl2 kw1 kw2 kc1 kc2 kz1 kz2
        go_wp2_with fail
        go_loopw [12] (fun iv wr => ∃ i : Nat, i ≤ 4 ∧ iv = .int .i64 i ∧ Blk wr g2 9 CS ∧ Below w.heap.size w wr) (fun iv _ => 4 - (intOf iv).toNat)
        case atStart => exact ⟨0, by omega, rfl, hx5, hbl5.drew⟩
        case round =>
          clear hx5 hbl5
          obtain ⟨i, hi, rfl, hx5, hbl5⟩ := hrel
          by_cases hi4 : i < 4
          · obtain ⟨si, hsi, hsz⟩ := HSS.out i hi4
            have hcell := (hx5.cell i).trans hsi
            have HSI := Lib.hid hsi
            clear hsi
            rcases hd : dec si.data.toList with _ | b
            · have c1 := Lib.hid (fun w => dec_none si w hsz hd)
              have c2 := Lib.hid (fun w => rdec_none si w hsz hd)
              clear hd
              go_wp2_with fail
              refine (c1.out _).mono ?_
              rintro e w6 ⟨rfl, hb6⟩
              have hx6 := hx5.below hb6 hx5.lt
              have hcell6 := (hx6.cell i).trans HSI.out
              go_wp2_with fail
              refine (c2.out _).mono ?_
              rintro e w7 ⟨rfl, hb7⟩
              have hx7 := hx6.below hb7 hx6.lt
              have hbl7 := (hbl5.trans (hb6.mono hbl5.size)).trans (hb7.mono (Nat.le_trans hbl5.size hb6.size))
              have hn1 := fun w => reads_str (P := Try.prog) (w := w) (B := 0) (n := 0) (c := 0) (A := none) (l := []) Reads.none_ 22 9 5 Try.underlying22 Try.underlying5 Try.underlying9
              go_wp2_with fail
              go_roundw
              case rel => first | exact ⟨i + 1, by omega, by go_num, hx7, hbl7⟩ | ((repeat apply Exists.intro); exact ⟨⟨i + 1, by omega, by go_num, hx7, hbl7⟩, rfl⟩)
              case measure => simp [intOf]; omega
            · have c1 := Lib.hid (fun w => dec_some si w hsz b hd)
              have c2 := Lib.hid (fun w => rdec_some si w hsz b hd)
              clear hd
              go_wp2_with fail
              refine (c1.out _).mono ?_
              rintro e w6 ⟨A6, c6, rfl, hr6, hc6, hb6⟩
              have hx6 := hx5.below hb6 hx5.lt
              have hcell6 := (hx6.cell i).trans HSI.out
              go_wp2_with fail
              refine (c2.out _).mono ?_
              rintro e w7 ⟨A7, c7, rfl, hr7, hc7, hb7⟩
              have hx7 := hx6.below hb7 hx6.lt
              have hbl7 := (hbl5.trans (hb6.mono hbl5.size)).trans (hb7.mono (Nat.le_trans hbl5.size hb6.size))
              have hn1 := reads_str (c := c6) (hr6.below hb7) 22 9 5 Try.underlying22 Try.underlying5 Try.underlying9
              have hn2 := reads_str (c := c7) hr7 22 9 5 Try.underlying22 Try.underlying5 Try.underlying9
              have hbb : (b == b) = true := beq_self_eq_true b
              go_wp2_with fail
              go_roundw
              case rel => first | exact ⟨i + 1, by omega, by go_num, hx7, hbl7⟩ | ((repeat apply Exists.intro); exact ⟨⟨i + 1, by omega, by go_num, hx7, hbl7⟩, rfl⟩)
              case measure => simp [intOf]; omega
          · go_wp2_with fail
            refine (enc_walk A m c l wr ((hr.below hbl5).more hbl5.size) (by omega) hc).mono ?_
            rintro e w6 ⟨rfl, hb6⟩
            have hbl6 := hbl5.trans (hb6.mono hbl5.size)
            go_wp2_with fail
            refine (renc_walk A m c l w6 ((hr.below hbl6).more hbl6.size) (by omega)).mono ?_
            rintro e w7 ⟨rfl, hb7⟩
            have hee : (enc l == enc l) = true := beq_self_eq_true _
            go_wp2_with fail
            go_ret
            exact ⟨rfl, hbl6.trans (hb7.mono hbl6.size)⟩
end Go.Proofs.Ytnlaeamogmplhaa

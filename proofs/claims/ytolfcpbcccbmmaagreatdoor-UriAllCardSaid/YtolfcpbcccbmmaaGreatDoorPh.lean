import Derived.Test.YtolfcpbcccbmmaaGreatDoorPd
import Derived.Test.YtolfcpbcccbmmaaGreatDoorPb
set_option linter.unusedVariables false
set_option linter.unusedSimpArgs false
set_option maxRecDepth 20000
namespace Go.Proofs.YtolfcpbcccbmmaaGreatDoor
open Go.RowKit Pc
theorem rune_z : ∀ r : Fin 128, Lib.encodeRuneZ (r.val : Int) = [(r.val : Int)] := by decide +kernel
theorem rune_cell (r : Fin 128) : Lib.runeCells (r.val : Int) = [.int .u8 (r.val : Int)] := by rw [Lib.runeCells, rune_z]; rfl
theorem plain_small : ∀ c : Fin 256, plainB c.val = true → c.val < 128 := by decide +kernel
theorem hx_small (n : Nat) (h : n < 16) : hx n < 128 := by unfold hx; split <;> omega
set_option maxHeartbeats 2000000 in
theorem enc_walk (s : ByteArray) (l : List UInt8) (hs : s.data.toList = l) (form : Bool) (w : World) (hd : DigOk w) (hm : s.size ≤ 1000000) :
    Calls Tryz.prog 73 #[.string s, .bool form] w fun e w' => e = .returned (.string ⟨(encL form l).toArray⟩) ∧ Below w.heap.size w w' := by
  have hsz : l.length = s.size := by rw [← hs, Lib.size_eq]
  have HD := Lib.hid hd
  clear hd
  go_enter Tryz.func73, Tryz.ntmps73
  go_wp2_with fail
  go_loopw [11] (fun nv wr => ∃ k : Nat, k ≤ s.size ∧ nv = .int .i64 k ∧ Lib.IsBuilderF 94 5 w.heap.size w.heap.size (Lib.byteCells (encL form (l.take k))) wr ∧ Below w.heap.size w wr) (fun nv _ => s.size - (intOf nv).toNat)
  case atStart => exact ⟨0, by omega, rfl, builder_new _ _ w, (Below.refl _ _).alloc (Nat.le_refl _) _⟩
  case round =>
    obtain ⟨k, hk, rfl, hbd, hbl⟩ := hrel
    obtain ⟨o, ho⟩ : ∃ o, encL form (l.take k) = o := ⟨_, rfl⟩
    have hol : o.length ≤ 3000000 := by
      rw [← ho]
      have := encL_le form (l.take k)
      rw [List.length_take] at this
      omega
    rw [ho] at hbd
    by_cases hlt : k < s.size
    · obtain ⟨b, eb, hb, hb2⟩ : ∃ b : Nat, (s[k]'hlt).toNat = b ∧ Hid ((l.getD k 0).toNat = b) ∧ b < 256 := ⟨_, str_at hs hlt, rfl, (l.getD k 0).toNat_lt⟩
      have hst := encL_take form (l := l) (k := k) (by omega)
      rw [ho] at hst
      have HST := Lib.hid hst
      have cb := Lib.hid (fun w => bare_walk b form w hb2)
      clear hst ho
      cases hbb : bareB b form
      · have hpb : plainB b = false := by
          simp only [bareB, Bool.or_eq_false_iff] at hbb
          exact hbb.2
        have hf32 : ¬ (form && b == 32) = true := by
          simp only [bareB, Bool.or_eq_false_iff] at hbb
          rw [hbb.1]; simp
        have hnew : Hid (encB form (l.getD k 0) = [37, UInt8.ofNat (hx (b / 16)), UInt8.ofNat (hx (b % 16))]) := by
          show _ = _
          rw [encB, hb.out, if_neg hf32, hpb]; simp
        obtain ⟨x1, hx1, hy1⟩ : ∃ x1, hx (b / 16) = x1 ∧ x1 < 128 := ⟨_, rfl, hx_small _ (by omega)⟩
        obtain ⟨x2, hx2, hy2⟩ : ∃ x2, hx (b % 16) = x2 ∧ x2 < 128 := ⟨_, rfl, hx_small _ (by omega)⟩
        have g1 : Hid (∀ w1, Below w.heap.size w w1 → w1.cell? ⟨1, b / 16, none⟩ = some (.int .i32 (x1 : Int))) := fun w1 h => by rw [← hx1]; exact (HD.out.below h).2 _ (by omega)
        have g2 : Hid (∀ w1, Below w.heap.size w w1 → w1.cell? ⟨1, b % 16, none⟩ = some (.int .i32 (x2 : Int))) := fun w1 h => by rw [← hx2]; exact (HD.out.below h).2 _ (by omega)
        obtain ⟨rr, hrr⟩ : ∃ rr, bareR b form = rr := ⟨_, rfl⟩
        rw [hbb, hrr] at cb
        rw [hx1, hx2] at hnew
        have hw1 := Lib.hid (fun hB => Tryz.Builder_WriteRune_k w.heap.size w.heap.size (Lib.byteCells o) 37 (by omega) (by omega) wr hbd (by rw [Lib.byteCells_length]; omega) hB)
        clear hbb hrr hpb hf32 hx1 hx2
        go_wp2_with fail
        refine (cb.out _).mono ?_
        rintro _ w1 ⟨rfl, rfl⟩
        go_wp2_with fail
        refine (hw1.out hbl.size).mono ?_
        rintro _ w1 ⟨rfl, hb1, hbl1, hoth⟩
        rw [show Lib.runeCells 37 = [.int .u8 37] from rune_cell ⟨37, by omega⟩] at hb1
        have hbl2 := hbl.trans hbl1
        have hc1 := g1.out w1 hbl2
        have hw2 := Lib.hid (fun hB => Tryz.Builder_WriteRune_k w.heap.size w.heap.size (Lib.byteCells o ++ [.int .u8 37]) (x1 : Int) (by omega) (by omega) w1 (.inr hb1) (by rw [List.length_append, Lib.byteCells_length]; simp; omega) hB)
        clear hb1 hbl1 hoth hbd hw1
        go_wp2_with fail
        refine (hw2.out hbl2.size).mono ?_
        rintro _ w2 ⟨rfl, hb2', hbl3, hoth⟩
        rw [rune_cell ⟨x1, hy1⟩] at hb2'
        have hbl4 := hbl2.trans hbl3
        have hc2 := g2.out w2 hbl4
        have hw3 := Lib.hid (fun hB => Tryz.Builder_WriteRune_k w.heap.size w.heap.size (Lib.byteCells o ++ [.int .u8 37] ++ [.int .u8 (x1 : Int)]) (x2 : Int) (by omega) (by omega) w2 (.inr hb2') (by rw [List.length_append, List.length_append, Lib.byteCells_length]; simp; omega) hB)
        clear hb2' hbl3 hoth hw2 hc1
        go_wp2_with fail
        refine (hw3.out hbl4.size).mono ?_
        rintro _ w3 ⟨rfl, hb3, hbl5, hoth⟩
        rw [rune_cell ⟨x2, hy2⟩] at hb3
        have hcs : Lib.byteCells o ++ [.int .u8 37] ++ [.int .u8 (x1 : Int)] ++ [.int .u8 (x2 : Int)] = Lib.byteCells (encL form (l.take (k + 1))) := by
          rw [HST.out, hnew.out, Lib.byteCells_append]
          simp [Lib.byteCells, Nat.mod_eq_of_lt (show x1 < 256 by omega), Nat.mod_eq_of_lt (show x2 < 256 by omega)]
        rw [hcs] at hb3
        have hbl6 := hbl4.trans hbl5
        clear hcs hbl5 hoth hw3 hc2
        go_wp2_with fail
        exact ⟨⟨k + 1, by omega, by go_num, .inr hb3, hbl6⟩, by simp [intOf]; omega⟩
      · obtain ⟨r, hr, hr2⟩ : ∃ r : Nat, bareR b form = r ∧ r < 128 := by
          refine ⟨_, rfl, ?_⟩
          simp only [bareB, Bool.or_eq_true] at hbb
          unfold bareR
          split
          · omega
          · rename_i h1
            rcases hbb with h | h
            · exact absurd h h1
            · exact plain_small ⟨b, hb2⟩ h
        have hnew : Hid (Lib.byteCells (encB form (l.getD k 0)) = [.int .u8 (r : Int)]) := by
          show _ = _
          rw [← hr, encB, bareR, hb.out]
          by_cases h1 : (form && b == 32) = true
          · rw [if_pos h1, if_pos h1]; rfl
          · rw [if_neg h1, if_neg h1]
            simp only [bareB, Bool.or_eq_true] at hbb
            rw [if_pos (hbb.resolve_left h1)]
            exact (cells_one hb.out).symm
        rw [hbb, hr] at cb
        have hwr := Lib.hid (fun hB => Tryz.Builder_WriteRune_k w.heap.size w.heap.size (Lib.byteCells o) (r : Int) (by omega) (by omega) wr hbd (by rw [Lib.byteCells_length]; omega) hB)
        clear hbb hr
        go_wp2_with fail
        refine (cb.out _).mono ?_
        rintro _ w1 ⟨rfl, rfl⟩
        go_wp2_with fail
        refine (hwr.out hbl.size).mono ?_
        rintro _ w1 ⟨rfl, hb1, hbl1, hoth⟩
        rw [rune_cell ⟨r, hr2⟩, ← hnew.out, ← Lib.byteCells_append, ← HST.out] at hb1
        have hbl2 := hbl.trans hbl1
        go_wp2_with fail
        exact ⟨⟨k + 1, by omega, by go_num, .inr hb1, hbl2⟩, by simp [intOf]; omega⟩
    · have hke : k = l.length := by omega
      rw [hke, List.take_length] at ho
      have hsr := Tryz.Builder_String_any_k w.heap.size w.heap.size o wr hbd hbl.size
      have HO := Lib.hid ho
      clear ho hke
      go_wp2_with fail
      refine hsr.mono ?_
      rintro _ w1 ⟨rfl, hb1, hbl1, hoth⟩
      go_wp2_with fail
      go_ret
      exact ⟨by rw [HO.out]; rfl, hbl.trans hbl1⟩
end Go.Proofs.YtolfcpbcccbmmaaGreatDoor

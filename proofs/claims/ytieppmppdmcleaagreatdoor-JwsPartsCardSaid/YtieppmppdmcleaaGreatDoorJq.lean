/- json.quoted: a text as it is written. Condition: a small text. -/
import Derived.Test.YtieppmppdmcleaaGreatDoorJm
import Derived.Lib.BufferWrite
set_option linter.unusedVariables false
set_option linter.unusedSimpArgs false
set_option maxRecDepth 20000
namespace Go.Proofs.YtieppmppdmcleaaGreatDoor
open Go.RowKit
def escL (l : List UInt8) : List UInt8 := l.flatMap escB
theorem escB_le (b : UInt8) : (escB b).length ≤ 6 := by
  unfold escB; split
  · simp
  · split <;> simp
theorem escL_le : ∀ l : List UInt8, (escL l).length ≤ 6 * l.length
  | [] => by simp [escL]
  | b :: l => by
    have h1 := escB_le b
    have h2 := escL_le l
    simp only [escL, List.flatMap_cons, List.length_append, List.length_cons] at h2 ⊢
    omega
theorem escL_take {l : List UInt8} {k : Nat} (h : k < l.length) : escL (l.take (k + 1)) = escL (l.take k) ++ escB (l.getD k 0) := by
  rw [List.take_add_one, List.getElem?_eq_getElem h]
  rw [escL, List.flatMap_append, List.getD, List.getElem?_eq_getElem h]
  simp [escL]
theorem str_at {s : ByteArray} {l : List UInt8} (hs : s.data.toList = l) {k : Nat} (hk : k < s.size) : (s[k]'hk).toNat = (l.getD k 0).toNat := by
  subst hs
  rw [List.getD_eq_getElem?_getD, List.getElem?_eq_getElem (by simpa using hk)]
  rfl
theorem hexS : ∀ p, p < 16 → (⟨#[48, 49, 50, 51, 52, 53, 54, 55, 56, 57, 97, 98, 99, 100, 101, 102]⟩ : ByteArray).extract p (p + 1) = ⟨#[hexD p]⟩ := by
  intro p hp
  have : ∀ p : Fin 16, ((⟨#[48, 49, 50, 51, 52, 53, 54, 55, 56, 57, 97, 98, 99, 100, 101, 102]⟩ : ByteArray).extract p.val (p.val + 1)).data.toList = [hexD p.val] := by decide +kernel
  have h := this ⟨p, hp⟩
  exact str_eta _ _ h
theorem wrap_u8 (a : Int) : IntKind.u8.wrap a = a % 256 := by simp [IntKind.wrap, IntKind.signed, IntKind.bits]
theorem and15 (b : Nat) (h : b < 256) : bits .and .u8 (b : Int) 15 = ((b % 16 : Nat) : Int) := by
  have : ∀ b : Fin 256, bits .and .u8 (b.val : Int) 15 = ((b.val % 16 : Nat) : Int) := by decide +kernel
  exact this ⟨b, h⟩
set_option maxHeartbeats 8000000 in
theorem quoted_walk (s : ByteArray) (l : List UInt8) (hs : s.data.toList = l) (w : World) (hm : s.size ≤ 1000000) :
    Calls Tryz.prog 119 #[.string s] w fun e w' => e = .returned (.string ⟨(quotedL l).toArray⟩) ∧ Below w.heap.size w w' := by
  have hsz : l.length = s.size := by rw [← hs, Lib.size_eq]
  have hw0 := Lib.hid (Tryz.Builder_WriteByte_k w.heap.size w.heap.size [] 34 (w.alloc (.cells #[.pointer none, .slice none 0 0] 111)) (builder_new _ _ w) (by simp) (by simp))
  go_enter Tryz.func119, Tryz.ntmps119
  go_wp2_with fail
  refine hw0.out.mono ?_
  rintro _ w1 ⟨rfl, hb1, hbl1, hoth⟩
  have HB1 : Hid (Lib.BuilderAtF 111 5 w.heap.size w.heap.size (.pointer (some ⟨w.heap.size, 0, none⟩)) (Lib.byteCells (34 :: escL (l.take 0))) w1) := hb1
  have HBL := Lib.hid (((Below.refl w.heap.size w).alloc (Nat.le_refl _) (.cells #[.pointer none, .slice none 0 0] 111)).trans hbl1)
  clear hb1 hbl1 hoth hw0
  go_wp2_with fail
  go_loopw [9] (fun nv wr => ∃ k : Nat, k ≤ s.size ∧ nv = .int .i64 k ∧ Hid (Lib.BuilderAtF 111 5 w.heap.size w.heap.size (.pointer (some ⟨w.heap.size, 0, none⟩)) (Lib.byteCells (34 :: escL (l.take k))) wr) ∧ Hid (Below w.heap.size w wr)) (fun nv _ => s.size - (intOf nv).toNat)
  case atStart => exact ⟨0, by omega, rfl, HB1, HBL⟩
  case round =>
    clear HB1 HBL
    obtain ⟨k, hk, rfl, hbd, hbl⟩ := hrel
    have hol : (escL (l.take k)).length ≤ 6000000 := by
      have := escL_le (l.take k)
      rw [List.length_take] at this
      omega
    have hls := hbl.out.size
    by_cases hlt : k < s.size
    · obtain ⟨b, eb, hb, hb2⟩ : ∃ b : Nat, (s[k]'hlt).toNat = b ∧ Hid ((l.getD k 0).toNat = b) ∧ b < 256 := ⟨_, str_at hs hlt, rfl, (l.getD k 0).toNat_lt⟩
      have HST := Lib.hid (escL_take (l := l) (k := k) (by omega))
      have hub : Hid (l.getD k 0 = UInt8.ofNat b) := by show _ = _; rw [← hb.out]; simp
      by_cases h32 : b < 32
      · have hnew : Hid (escB (l.getD k 0) = [92, 117, 48, 48, hexD (b / 16), hexD (b % 16)]) := by
          show _ = _
          rw [escB, if_neg (by rw [hub.out]; simp [← UInt8.toNat_inj]; omega), if_pos (by rw [UInt8.lt_iff_toNat_lt, hb.out]; exact h32), hb.out]
        have d1 : ((b : Int) == 34) = false := by simp; omega
        have d2 : ((b : Int) == 92) = false := by simp; omega
        have d3 : decide ((b : Int) < 32) = true := by simp; omega
        obtain ⟨p, hp⟩ : ∃ p, b / 16 = p := ⟨_, rfl⟩
        obtain ⟨q, hq⟩ : ∃ q, b % 16 = q := ⟨_, rfl⟩
        have hp16 : p < 16 := by omega
        have hq16 : q < 16 := by omega
        rw [hp, hq] at hnew
        have e1 : (b : Int) / 16 = (p : Int) := by omega
        have e2 : IntKind.u8.wrap ((p : Int) + 1) = (p : Int) + 1 := by rw [wrap_u8]; omega
        have e3 : (p : Int) + 1 ≤ 16 := by omega
        have e4 := hexS p hp16
        have e5 : (0 : Int) ≤ (p : Int) + 1 := by omega
        have e6 : (p : Int) ≤ (p : Int) + 1 := by omega
        have f1 : bits .and .u8 (b : Int) 15 = (q : Int) := by rw [and15 b hb2, hq]
        have f2 : IntKind.u8.wrap ((q : Int) + 1) = (q : Int) + 1 := by rw [wrap_u8]; omega
        have f3 : (q : Int) + 1 ≤ 16 := by omega
        have f4 := hexS q hq16
        have f5 : (0 : Int) ≤ (q : Int) + 1 := by omega
        have f6 : (q : Int) ≤ (q : Int) + 1 := by omega
        clear hp hq
        go_wp2_with fail
        refine wp_region_held_drew (S := fun W => True) (by kernel_rfl) trivial (fun hHeld => ?_)
        first | (refine tk 0 rfl (Or.inr ⟨?_, rfl⟩) ?_; rfl) | (refine tk 0 rfl (v := ?_) (Or.inl ⟨?_, ?_⟩) ?_; rotate_left; rfl; focus (intro w hSw; (try dsimp only at hSw); go_simp; all_goals (with_reducible rfl)))
        (try simp only [nrm, Act.put])
        first | (refine tk 1 rfl (Or.inr ⟨?_, rfl⟩) ?_; rfl) | (refine tk 1 rfl (v := ?_) (Or.inl ⟨?_, ?_⟩) ?_; rotate_left; rfl; focus (intro w hSw; (try dsimp only at hSw); go_simp; all_goals (with_reducible rfl)))
        (try simp only [nrm, Act.put])
        first | (refine tk 2 rfl (Or.inr ⟨?_, rfl⟩) ?_; rfl) | (refine tk 2 rfl (v := ?_) (Or.inl ⟨?_, ?_⟩) ?_; rotate_left; rfl; focus (intro w hSw; (try dsimp only at hSw); go_simp; all_goals (with_reducible rfl)))
        (try simp only [nrm, Act.put])
        first | (refine tk 3 rfl (Or.inr ⟨?_, rfl⟩) ?_; rfl) | (refine tk 3 rfl (v := ?_) (Or.inl ⟨?_, ?_⟩) ?_; rotate_left; rfl; focus (intro w hSw; (try dsimp only at hSw); go_simp; all_goals (with_reducible rfl)))
        (try simp only [nrm, Act.put])
        first | (refine tk 4 rfl (Or.inr ⟨?_, rfl⟩) ?_; rfl) | (refine tk 4 rfl (v := ?_) (Or.inl ⟨?_, ?_⟩) ?_; rotate_left; rfl; focus (intro w hSw; (try dsimp only at hSw); go_simp; all_goals (with_reducible rfl)))
        (try simp only [nrm, Act.put])
        first | (refine tk 5 rfl (Or.inr ⟨?_, rfl⟩) ?_; rfl) | (refine tk 5 rfl (v := ?_) (Or.inl ⟨?_, ?_⟩) ?_; rotate_left; rfl; focus (intro w hSw; (try dsimp only at hSw); go_simp; all_goals (with_reducible rfl)))
        (try simp only [nrm, Act.put])
        first | (refine tk 6 rfl (Or.inr ⟨?_, rfl⟩) ?_; rfl) | (refine tk 6 rfl (v := ?_) (Or.inl ⟨?_, ?_⟩) ?_; rotate_left; rfl; focus (intro w hSw; (try dsimp only at hSw); go_simp; all_goals (with_reducible rfl)))
        (try simp only [nrm, Act.put])
        first | (refine tk 7 rfl (Or.inr ⟨?_, rfl⟩) ?_; rfl) | (refine tk 7 rfl (v := ?_) (Or.inl ⟨?_, ?_⟩) ?_; rotate_left; rfl; focus (intro w hSw; (try dsimp only at hSw); go_simp; all_goals (with_reducible rfl)))
        (try simp only [nrm, Act.put])
        first | (refine tk 8 rfl (Or.inr ⟨?_, rfl⟩) ?_; rfl) | (refine tk 8 rfl (v := ?_) (Or.inl ⟨?_, ?_⟩) ?_; rotate_left; rfl; focus (intro w hSw; (try dsimp only at hSw); go_simp; all_goals (with_reducible rfl)))
        (try simp only [nrm, Act.put])
        first | (refine tk 9 rfl (Or.inr ⟨?_, rfl⟩) ?_; rfl) | (refine tk 9 rfl (v := ?_) (Or.inl ⟨?_, ?_⟩) ?_; rotate_left; rfl; focus (intro w hSw; (try dsimp only at hSw); go_simp; all_goals (with_reducible rfl)))
        (try simp only [nrm, Act.put])
        first | (refine tk 10 rfl (Or.inr ⟨?_, rfl⟩) ?_; rfl) | (refine tk 10 rfl (v := ?_) (Or.inl ⟨?_, ?_⟩) ?_; rotate_left; rfl; focus (intro w hSw; (try dsimp only at hSw); go_simp; all_goals (with_reducible rfl)))
        (try simp only [nrm, Act.put])
        first | (refine tk 11 rfl (Or.inr ⟨?_, rfl⟩) ?_; rfl) | (refine tk 11 rfl (v := ?_) (Or.inl ⟨?_, ?_⟩) ?_; rotate_left; rfl; focus (intro w hSw; (try dsimp only at hSw); go_simp; all_goals (with_reducible rfl)))
        (try simp only [nrm, Act.put])
        first | (refine tk 12 rfl (Or.inr ⟨?_, rfl⟩) ?_; rfl) | (refine tk 12 rfl (v := ?_) (Or.inl ⟨?_, ?_⟩) ?_; rotate_left; rfl; focus (intro w hSw; (try dsimp only at hSw); go_simp; all_goals (with_reducible rfl)))
        (try simp only [nrm, Act.put])
        first | (refine tk 13 rfl (Or.inr ⟨?_, rfl⟩) ?_; rfl) | (refine tk 13 rfl (v := ?_) (Or.inl ⟨?_, ?_⟩) ?_; rotate_left; rfl; focus (intro w hSw; (try dsimp only at hSw); go_simp; all_goals (with_reducible rfl)))
        (try simp only [nrm, Act.put])
        refine wpAnyH_ready (rs := [14]) (by kernel_rfl) (by simp) ?_
        refine AllReadyH.cons rfl (fun K hK => ?_) AllReadyH.nil
        have hws := Tryz.Builder_WriteString_k w.heap.size w.heap.size (Lib.byteCells (34 :: escL (l.take k))) ((⟨#[92, 117, 48, 48]⟩ ++ ⟨#[hexD p]⟩) ++ ⟨#[hexD q]⟩) wr.drew (.inr hbd.out) (by rw [Lib.byteCells_length, List.length_cons]; simp [ByteArray.size_append, ByteArray.size]; omega) hls
        go_simp
        go_at_call 78
        with_reducible refine (hws).mono ?_
        rintro _ w2 ⟨rfl, hb2', hbl2, hoth⟩
        have hcs : Lib.byteCells (34 :: escL (l.take k)) ++ Lib.strCells ((⟨#[92, 117, 48, 48]⟩ ++ ⟨#[hexD p]⟩) ++ ⟨#[hexD q]⟩) = Lib.byteCells (34 :: escL (l.take (k + 1))) := by
          rw [HST.out, hnew.out]
          simp [Lib.byteCells, Lib.strCells]
        rw [hcs] at hb2'
        refine hK.out _ _ trivial (fun hHeld => ?_)
        clear hK K
        (try simp only [nrm, Act.put])
        refine wpAnyH_done (by kernel_rfl) ?_ _
        have HB2 := Lib.hid hb2'
        have HBL2 := Lib.hid ((hbl.out.drew).trans hbl2)
        clear hcs hb2' hbl2 hoth hws hHeld e1 e2 e3 e4 e5 e6 f1 f2 f3 f4 f5 f6
        go_wp2_with fail
        exact ⟨⟨k + 1, by omega, by go_num, HB2, HBL2⟩, by simp [intOf]; omega⟩
      · have d3 : decide ((b : Int) < 32) = false := by simp; omega
        by_cases hq : b = 34 ∨ b = 92
        · have hnew : Hid (escB (l.getD k 0) = [92, UInt8.ofNat b]) := by
            show _ = _
            rw [escB, hub.out, if_pos]
            rcases hq with rfl | rfl
            · left; rfl
            · right; rfl
          have hwb := Lib.hid (fun hB => Tryz.Builder_WriteByte_k w.heap.size w.heap.size (Lib.byteCells (34 :: escL (l.take k))) 92 wr (.inr hbd.out) (by rw [Lib.byteCells_length, List.length_cons]; omega) hB)
          have hdd : ((b : Int) == 34) = true ∨ ((b : Int) == 34) = false ∧ ((b : Int) == 92) = true := by
            rcases hq with h | h
            · left; simp; omega
            · right; constructor <;> (simp; omega)
          clear hq
          rcases hdd with d1 | ⟨d1, d2⟩
          all_goals
            go_wp2_with fail
            refine (hwb.out hls).mono ?_
            rintro _ w2 ⟨rfl, hb2', hbl2, hoth⟩
            have hbl3 := hbl.out.trans hbl2
            have hwc := Lib.hid (Tryz.Builder_WriteByte_k w.heap.size w.heap.size _ (b : Int) w2 (.inr hb2') (by rw [List.length_append, Lib.byteCells_length, List.length_cons]; simp; omega) hbl3.size)
            clear hb2' hbl2 hoth
            go_wp2_with fail
            refine hwc.out.mono ?_
            rintro _ w3 ⟨rfl, hb3, hbl4, hoth⟩
            have HB3 : Hid (Lib.BuilderAtF 111 5 w.heap.size w.heap.size (.pointer (some ⟨w.heap.size, 0, none⟩)) (Lib.byteCells (34 :: escL (l.take (k + 1)))) w3) := by
              show Lib.BuilderAtF _ _ _ _ _ _ _
              rw [HST.out, hnew.out]
              have e : (b : Int) % 256 = (b : Int) := by omega
              simpa [Lib.byteCells, e] using hb3
            have HBL3 := Lib.hid (hbl3.trans hbl4)
            clear hb3 hbl4 hbl3 hoth hwc
            go_wp2_with fail
            exact ⟨⟨k + 1, by omega, by go_num, HB3, HBL3⟩, by simp [intOf]; omega⟩
        · have hnew : Hid (escB (l.getD k 0) = [UInt8.ofNat b]) := by
            show _ = _
            rw [escB, hub.out, if_neg (by simp [← UInt8.toNat_inj]; omega), if_neg (by rw [UInt8.lt_iff_toNat_lt]; simp; omega)]
          have d1 : ((b : Int) == 34) = false := by simp; omega
          have d2 : ((b : Int) == 92) = false := by simp; omega
          have hwb := Lib.hid (fun hB => Tryz.Builder_WriteByte_k w.heap.size w.heap.size (Lib.byteCells (34 :: escL (l.take k))) (b : Int) wr (.inr hbd.out) (by rw [Lib.byteCells_length, List.length_cons]; omega) hB)
          go_wp2_with fail
          refine (hwb.out hls).mono ?_
          rintro _ w2 ⟨rfl, hb2', hbl2, hoth⟩
          have HB3 : Hid (Lib.BuilderAtF 111 5 w.heap.size w.heap.size (.pointer (some ⟨w.heap.size, 0, none⟩)) (Lib.byteCells (34 :: escL (l.take (k + 1)))) w2) := by
            show Lib.BuilderAtF _ _ _ _ _ _ _
            rw [HST.out, hnew.out]
            have e : (b : Int) % 256 = (b : Int) := by omega
            simpa [Lib.byteCells, e] using hb2'
          have HBL3 := Lib.hid (hbl.out.trans hbl2)
          clear hb2' hbl2 hoth hwb
          go_wp2_with fail
          exact ⟨⟨k + 1, by omega, by go_num, HB3, HBL3⟩, by simp [intOf]; omega⟩
    · obtain rfl : k = s.size := by omega
      have htk : l.take s.size = l := by rw [← hsz, List.take_length]
      rw [htk] at hbd hol
      have hwb := Lib.hid (Tryz.Builder_WriteByte_k w.heap.size w.heap.size (Lib.byteCells (34 :: escL l)) 34 wr (.inr hbd.out) (by rw [Lib.byteCells_length, List.length_cons]; omega) hls)
      go_wp2_with fail
      refine hwb.out.mono ?_
      rintro _ w2 ⟨rfl, hb2', hbl2, hoth⟩
      have hbl3 := hbl.out.trans hbl2
      have hb3 : Lib.BuilderAtF 111 5 w.heap.size w.heap.size (.pointer (some ⟨w.heap.size, 0, none⟩)) (Lib.byteCells (quotedL l)) w2 := by
        have e : quotedL l = 34 :: escL l ++ [34] := rfl
        rw [e, Lib.byteCells_append]
        exact hb2'
      have hsr := Lib.hid (Tryz.Builder_String_any_k w.heap.size w.heap.size (quotedL l) w2 (.inr hb3) hbl3.size)
      clear hb3 hb2' hbl2 hoth hwb
      go_wp2_with fail
      refine hsr.out.mono ?_
      rintro _ w3 ⟨rfl, hb4, hbl4, hoth⟩
      have HBL4 := Lib.hid (hbl3.trans hbl4)
      clear hb4 hbl4 hoth hbl3
      go_wp2_with fail
      go_ret
      exact ⟨rfl, HBL4.out⟩
end Go.Proofs.YtieppmppdmcleaaGreatDoor

import Derived.Test.YtekpdkjkkglcjaaMg
set_option linter.unusedVariables false
set_option linter.unusedSimpArgs false
set_option maxRecDepth 20000
namespace Go.Proofs.Ytekpdkjkkglcjaa
open Go.RowKit B64
theorem toNat_small (n : Nat) (h : n < 256) : (UInt8.ofNat n).toNat = n := by simp; omega
def RDecPost (l : List UInt8) (w : World) (e : Ending) (w' : World) : Prop :=
  Below w.heap.size w w' ∧ ((∃ b v, rdec l = some b ∧ e = .returned (.tuple #[v, .int .i64 0]) ∧ w'.ownsRow w.heap.size 5 1 v b.length (Lib.byteCells b)) ∨ (rdec l = none ∧ e = .returned (.tuple #[.slice none 0 0, .int .i64 3])))
def RRel (l : List UInt8) (w : World) (ov vv bv iv : Value) (wr : World) : Prop :=
  ∃ k : Nat, k ≤ l.length ∧ iv = .int .i64 k ∧ Hid (∀ j, j < k → isSign (l.getD j 0) = true) ∧ vv = .int .i64 ((rst (l.take k)).v : Nat) ∧ bv = .int .i64 ((rst (l.take k)).bits : Nat) ∧
    wr.ownsRow w.heap.size 5 1 ov (rst (l.take k)).out.length (Lib.byteCells (rst (l.take k)).out) ∧ Below w.heap.size w wr

set_option maxHeartbeats 2000000 in
theorem rdec_walk (s : ByteArray) (l : List UInt8) (hs : s.data.toList = l) (w : World) (hm : s.size ≤ 1000000) :
    Calls Try.prog 49 #[.string s] w (RDecPost l w) := by
  have hsz : l.length = s.size := by rw [← hs, Lib.size_eq]
  obtain ⟨i0, hi, hz0, hz1, hz2⟩ := info_parts info5
  go_enter Try.func49, Try.ntmps49
  go_wp2_with fail
  go_loopw [4, 5, 6, 7] (fun ov vv bv iv wr => RRel l w ov vv bv iv wr) (fun _ _ _ iv _ => s.size - (intOf iv).toNat)
  case atStart => exact ⟨0, by omega, rfl, fun j hj => by omega, rfl, rfl, World.ownsRow_nil _ _ _ _, Below.refl _ _⟩
  case round =>
    obtain ⟨k, hk, rfl, hsg, rfl, rfl, hown, hbl⟩ := hrel
    have hok := rst_ok (l.take k)
    have hle := rst_le (l.take k)
    have HS := Lib.hid (rst_snoc (l.take k) (l.getD k 0))
    generalize hst : rst (l.take k) = st at *
    obtain ⟨o, v, b⟩ := st
    obtain ⟨hv, hb⟩ := hok
    simp only at hv hb hle hown ⊢
    by_cases hlt : k < s.size
    · have htk : l.take (k + 1) = l.take k ++ [l.getD k 0] := by
        rw [List.take_succ_eq_append_getElem (by omega), List.getD_eq_getElem?_getD, List.getElem?_eq_getElem (by omega)]; rfl
      have hgk : l.getD k 0 = s[k] := by subst hs; rw [List.getD_eq_getElem?_getD, List.getElem?_eq_getElem (by simpa using hlt)]; rfl
      rw [← htk, hgk] at HS
      have HGK := Lib.hid hgk
      have hole : o.length ≤ k := by have : (l.take k).length ≤ k := List.length_take_le _ _; omega
      clear htk hgk hle hst
      have hge := Lib.indexByte_ge signs s[k]
      have hlt64 := index_lt s[k]
      go_wp2_with fail
      refine (sgn_walk s[k] wr).mono ?_
      rintro e w1 ⟨rfl, rfl⟩
      obtain ⟨K, hK, hKge, hKlt⟩ : ∃ K, Lib.indexByte signs s[k] = K ∧ -1 ≤ K ∧ K < 64 := ⟨_, rfl, hge, hlt64⟩
      rw [hK]
      have HK := Lib.hid hK
      clear hK hge hlt64
      by_cases hneg : K < 0
      · go_wp2_with fail
        go_ret2
        refine ⟨hbl, .inr ⟨?_, rfl⟩⟩
        rw [rdec, if_neg]
        rintro ⟨h, _⟩
        rw [List.all_eq_true] at h
        have := h s[k] (by rw [← HGK.out, List.getD_eq_getElem?_getD, List.getElem?_eq_getElem (by omega)]; exact List.getElem_mem _)
        rw [isSign, HK.out] at this
        simp at this
        omega
      · obtain ⟨q, rfl⟩ := Int.eq_ofNat_of_zero_le (show 0 ≤ K by omega)
        have HQ : Hid (num s[k] = q) := by show _ = _; rw [num, HK.out]; simp
        have hq : q < 64 := by omega
        have HSg : Hid (∀ j, j < k + 1 → isSign (l.getD j 0) = true) := fun j hj => by
          rcases Nat.lt_or_ge j k with h | h
          · exact hsg.out j h
          · rw [show j = k by omega, HGK.out, isSign, HK.out]; simp
        clear hneg hsg HK hKge hKlt
        rcases hb with rfl | rfl | rfl | rfl
        · have hv : v < 1 := hv
          go_wp2_with fail
          have hr2 : rstep ⟨o, v, 0⟩ s[k] = ⟨o, v * 64 + q, 6⟩ := by simp [rstep, HQ.out]
          refine ⟨⟨k + 1, by omega, by go_num, HSg, by rw [HS.out, hr2]; go_num, by rw [HS.out, hr2]; rfl, ?_, hbl⟩, by simp [intOf]; omega⟩
          rw [HS.out, hr2]
          exact hown
        · have hv : v < 4 := hv
          have hand : bits .and .i64 ((v : Int) * 64 + (q : Int)) 0 = (((v * 64 + q) % 1 : Nat) : Int) := by
            have := and0 (v * 64 + q) (by omega)
            simp only [Int.natCast_add, Int.natCast_mul] at this
            first | exact this | (rw [show (v * 64 + q) % 1 = 0 by omega]; exact this)
          go_wp2_with (at_builtin; refine wpList_append_new wr rfl (.tmp 31) (.tmp 36) 49 rfl w.heap.size 5 i0 (.int .u8 0) 1 1 Try.underlying49 hi hz0 hz1 hz2 rfl (by decide) u4 o.length (Lib.byteCells o) rfl hown _ rfl rfl (by simp [Value.oneCell']) (by unfold maxLen; omega) (by omega) hbl.size ?_; intro v' w2 hown2 hg2)
          have hbl3 := grown_below hbl hown hg2 hbl.size
          have hb2 : Lib.byteCells o ++ [.int .u8 (((v : Int) * 64 + (q : Int)))] = Lib.byteCells (o ++ [UInt8.ofNat ((v * 64 + q))]) := by
            rw [Lib.byteCells_append]
            congr 1
            simp only [Lib.byteCells, List.map_cons, List.map_nil]
            rw [toNat_small ((v * 64 + q)) (by omega)]
            simp
          rw [hb2] at hown2
          have hr2 : rstep ⟨o, v, 2⟩ s[k] = ⟨o ++ [UInt8.ofNat ((v * 64 + q))], (v * 64 + q) % 1, 0⟩ := by
            simp [rstep, HQ.out]
          refine ⟨⟨k + 1, by omega, by go_num, HSg, by rw [HS.out, hr2]; show Value.int _ _ = Value.int _ _; first | rfl | (congr 1; simp [Nat.mod_one]), by rw [HS.out, hr2]; rfl, ?_, hbl3⟩, by simp [intOf]; omega⟩
          rw [HS.out, hr2]
          simpa using hown2
        · have hv : v < 16 := hv
          have hand : bits .and .i64 ((v : Int) * 64 + (q : Int)) 3 = (((v * 64 + q) % 4 : Nat) : Int) := by
            have := and3 (v * 64 + q) (by omega)
            simp only [Int.natCast_add, Int.natCast_mul] at this
            first | exact this | (rw [show (v * 64 + q) % 1 = 0 by omega]; exact this)
          go_wp2_with (at_builtin; refine wpList_append_new wr rfl (.tmp 31) (.tmp 36) 49 rfl w.heap.size 5 i0 (.int .u8 0) 1 1 Try.underlying49 hi hz0 hz1 hz2 rfl (by decide) u4 o.length (Lib.byteCells o) rfl hown _ rfl rfl (by simp [Value.oneCell']) (by unfold maxLen; omega) (by omega) hbl.size ?_; intro v' w2 hown2 hg2)
          have hbl3 := grown_below hbl hown hg2 hbl.size
          have hb2 : Lib.byteCells o ++ [.int .u8 (((v : Int) * 64 + (q : Int)) / 4)] = Lib.byteCells (o ++ [UInt8.ofNat ((v * 64 + q) / 4)]) := by
            rw [Lib.byteCells_append]
            congr 1
            simp only [Lib.byteCells, List.map_cons, List.map_nil]
            rw [toNat_small ((v * 64 + q) / 4) (by omega)]
            simp
          rw [hb2] at hown2
          have hr2 : rstep ⟨o, v, 4⟩ s[k] = ⟨o ++ [UInt8.ofNat ((v * 64 + q) / 4)], (v * 64 + q) % 4, 2⟩ := by
            simp [rstep, HQ.out]
          refine ⟨⟨k + 1, by omega, by go_num, HSg, by rw [HS.out, hr2]; show Value.int _ _ = Value.int _ _; first | rfl | (congr 1; simp [Nat.mod_one]), by rw [HS.out, hr2]; rfl, ?_, hbl3⟩, by simp [intOf]; omega⟩
          rw [HS.out, hr2]
          simpa using hown2
        · have hv : v < 64 := hv
          have hand : bits .and .i64 ((v : Int) * 64 + (q : Int)) 15 = (((v * 64 + q) % 16 : Nat) : Int) := by
            have := and15 (v * 64 + q) (by omega)
            simp only [Int.natCast_add, Int.natCast_mul] at this
            first | exact this | (rw [show (v * 64 + q) % 1 = 0 by omega]; exact this)
          go_wp2_with (at_builtin; refine wpList_append_new wr rfl (.tmp 31) (.tmp 36) 49 rfl w.heap.size 5 i0 (.int .u8 0) 1 1 Try.underlying49 hi hz0 hz1 hz2 rfl (by decide) u4 o.length (Lib.byteCells o) rfl hown _ rfl rfl (by simp [Value.oneCell']) (by unfold maxLen; omega) (by omega) hbl.size ?_; intro v' w2 hown2 hg2)
          have hbl3 := grown_below hbl hown hg2 hbl.size
          have hb2 : Lib.byteCells o ++ [.int .u8 (((v : Int) * 64 + (q : Int)) / 16)] = Lib.byteCells (o ++ [UInt8.ofNat ((v * 64 + q) / 16)]) := by
            rw [Lib.byteCells_append]
            congr 1
            simp only [Lib.byteCells, List.map_cons, List.map_nil]
            rw [toNat_small ((v * 64 + q) / 16) (by omega)]
            simp
          rw [hb2] at hown2
          have hr2 : rstep ⟨o, v, 6⟩ s[k] = ⟨o ++ [UInt8.ofNat ((v * 64 + q) / 16)], (v * 64 + q) % 16, 4⟩ := by
            simp [rstep, HQ.out]
          refine ⟨⟨k + 1, by omega, by go_num, HSg, by rw [HS.out, hr2]; show Value.int _ _ = Value.int _ _; first | rfl | (congr 1; simp [Nat.mod_one]), by rw [HS.out, hr2]; rfl, ?_, hbl3⟩, by simp [intOf]; omega⟩
          rw [HS.out, hr2]
          simpa using hown2
    · have hks : k = l.length := by omega
      obtain ⟨A', c', hu4, hnc, hrd⟩ := own_reads hown (Nat.le_refl _)
      have hno : o.length ≤ 1000000 := by have : (l.take k).length ≤ k := List.length_take_le _ _; omega
      have HST : Hid (rst l = ⟨o, v, b⟩) := by
        show _ = _
        rw [← hst, hks, List.take_length]
      clear HS hst hle
      have hsl : s.toList = l := by rw [Lib.toList_data, hs]
      have HSL := Lib.hid hsl
      clear hsl
      subst hu4
      go_wp2_with fail
      refine (renc_walk A' o.length c' o wr hrd hno).mono ?_
      rintro e w1 ⟨rfl, hb1⟩
      have hal : l.all isSign = true := part_all_sign l (fun j hj => hsg.out j (by omega))
      have hown1 := ownsRow_below hown hb1
      by_cases heq : enc o = l
      · have hne : (enc o == s.toList) = true := by rw [HSL.out, heq]; simp
        have hrdec : Hid (rdec l = some o) := by show _ = _; rw [rdec, HST.out, if_pos ⟨hal, heq⟩]
        clear heq hal
        go_wp2_with fail
        go_ret2
        exact ⟨hbl.trans (hb1.mono hbl.size), .inl ⟨o, _, hrdec.out, rfl, hown1⟩⟩
      · have hne : (enc o == s.toList) = false := by rw [HSL.out]; simp [heq]
        have hrdec : Hid (rdec l = none) := by show _ = _; rw [rdec, HST.out, if_neg (fun h => heq h.2)]
        clear heq hal
        go_wp2_with fail
        go_ret2
        exact ⟨hbl.trans (hb1.mono hbl.size), .inr ⟨hrdec.out, rfl⟩⟩
end Go.Proofs.Ytekpdkjkkglcjaa

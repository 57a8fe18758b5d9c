import Derived.Test.YtolfcpbcccbmmaaGreatDoorPa
set_option linter.unusedVariables false
set_option linter.unusedSimpArgs false
set_option maxRecDepth 20000
namespace Go.Proofs.YtolfcpbcccbmmaaGreatDoor
open Go.RowKit Pc
theorem info_u8 : (Tryz.prog.info? 5).map (fun i => (i.zero, i.size, i.bytes)) = some (some (.int .u8 0), 1, 1) := by kernel_rfl
theorem encB_le (form : Bool) (b : UInt8) : (encB form b).length ≤ 3 := by
  unfold encB; split
  · simp
  · split <;> simp
theorem encL_le (form : Bool) : ∀ l : List UInt8, (encL form l).length ≤ 3 * l.length
  | [] => by simp [encL]
  | b :: l => by
    rw [encL_cons, List.length_append, List.length_cons]
    have := encB_le form b
    have := encL_le form l
    omega
theorem encL_take (form : Bool) {l : List UInt8} {k : Nat} (h : k < l.length) : encL form (l.take (k + 1)) = encL form (l.take k) ++ encB form (l.getD k 0) := by
  rw [List.take_succ_eq_append_getElem h, encL_append, List.getD_eq_getElem?_getD, List.getElem?_eq_getElem h]
  simp [encL]
theorem own_next {w : World} {B : Nat} {T : TypeId} {v : Value} {o news o' : List UInt8} {m : Nat} {cs : List Value} (h : w.ownsRow B T 1 v (o.length + m) (Lib.byteCells o ++ cs)) (hc : cs = Lib.byteCells news) (hm : news.length = m) (e : o' = o ++ news) :
    w.ownsRow B T 1 v o'.length (Lib.byteCells o') := by
  subst e; subst hm; subst hc
  rw [List.length_append, Lib.byteCells_append]
  exact h
theorem cells_one {x : UInt8} {b : Nat} (h : x.toNat = b) : ([.int .u8 (b : Int)] : List Value) = Lib.byteCells [x] := by simp [Lib.byteCells, h]
set_option maxHeartbeats 2000000 in
theorem renc_walk (s : ByteArray) (l : List UInt8) (hs : s.data.toList = l) (form : Bool) (w : World) (hm : s.size ≤ 1000000) :
    Calls Tryz.prog 71 #[.string s, .bool form] w fun e w' => e = .returned (.string ⟨(encL form l).toArray⟩) ∧ Below w.heap.size w w' := by
  have hsz : l.length = s.size := by rw [← hs, Lib.size_eq]
  obtain ⟨i0, hi, hz0, hz1, hz2⟩ := info_parts info_u8
  go_enter Tryz.func71, Tryz.ntmps71
  go_wp2_with fail
  go_loopw [5, 6] (fun ov nv wr => ∃ k : Nat, k ≤ s.size ∧ nv = .int .i64 k ∧ wr.ownsRow w.heap.size 5 1 ov (encL form (l.take k)).length (Lib.byteCells (encL form (l.take k))) ∧ Below w.heap.size w wr) (fun _ nv _ => s.size - (intOf nv).toNat)
  case atStart => exact ⟨0, by omega, rfl, World.ownsRow_nil _ _ _ _, Below.refl _ _⟩
  case round =>
    obtain ⟨k, hk, rfl, hown, hbl⟩ := hrel
    obtain ⟨o, ho⟩ : ∃ o, encL form (l.take k) = o := ⟨_, rfl⟩
    have hol : o.length ≤ 3000000 := by
      rw [← ho]
      have := encL_le form (l.take k)
      rw [List.length_take] at this
      omega
    rw [ho] at hown
    by_cases hlt : k < s.size
    · obtain ⟨b, eb, hb, hb2⟩ : ∃ b : Nat, (s[k]'hlt).toNat = b ∧ Hid ((l.getD k 0).toNat = b) ∧ b < 256 := ⟨_, str_at hs hlt, rfl, (l.getD k 0).toNat_lt⟩
      have hst := encL_take form (l := l) (k := k) (by omega)
      rw [ho] at hst
      have HST := Lib.hid hst
      have HO := Lib.hid ho
      have cp := Lib.hid (rplain_walk b)
      rw [rplain_eq ⟨b, hb2⟩] at cp
      have hx : UInt8.ofNat b = l.getD k 0 := by rw [← hb.out]; simp
      have HX := Lib.hid hx
      clear hst ho hx
      cases hp : plainB b
      · rw [hp] at cp
        by_cases h32 : form = true ∧ b = 32
        · obtain ⟨rfl, rfl⟩ := h32
          have hnew : Hid (encB true (l.getD k 0) = [43]) := by show _ = _; rw [encB, hb.out]; rfl
          have hrd := reads_row wr 5 [.int .u8 43]
          clear hp
          go_wp2_with fail
          refine (cp.out _).mono ?_
          rintro _ w1 ⟨rfl, rfl⟩
          go_wp2_with (at_builtin; refine wpList_append_any (wr.alloc (.cells #[.int .u8 43] 5)) rfl (.tmp 41) (.tmp 42) 81 rfl w.heap.size 5 i0 (.int .u8 0) 1 1 Tryz.underlying81 hi hz0 hz1 hz2 rfl (by decide) u5 o.length (Lib.byteCells o) rfl (hown.alloc _) (wr.heap.size + 1) _ 1 1 [.int .u8 43] rfl hrd (by simp [Value.oneCell']) (by unfold maxLen; omega) (by omega) (by have := hbl.size; simp; omega) ?_; intro v' w2 hown2 hg2 hat2)
          have hbl2 : Below w.heap.size w w2 := (hbl.alloc hbl.size _).grown hg2 (by have := hbl.size; simp; omega) (fun g hg => by have := hown.lt g hg; omega)
          have hown3 := own_next (news := [43]) hown2 (rfl) rfl (HST.out.trans (congrArg (o ++ ·) hnew.out))
          exact ⟨⟨k + 1, by omega, by go_num, hown3, hbl2⟩, by simp [intOf]; omega⟩
        · have hnew : Hid (encB form (l.getD k 0) = [37, UInt8.ofNat (hx (b / 16)), UInt8.ofNat (hx (b % 16))]) := by
            show _ = _
            rw [encB, hb.out, hp, if_neg, if_neg]
            · simp
            · simpa using h32
          have hh1 : hx (b / 16) < 256 := by unfold hx; split <;> omega
          have hh2 : hx (b % 16) < 256 := by unfold hx; split <;> omega
          obtain ⟨x1, hx1⟩ : ∃ x1, hx (b / 16) = x1 := ⟨_, rfl⟩
          obtain ⟨x2, hx2⟩ : ∃ x2, hx (b % 16) = x2 := ⟨_, rfl⟩
          have c1 := Lib.hid (fun w => hex_walk (b / 16) w (by omega))
          have c2 := Lib.hid (fun w => hex_walk (b % 16) w (by omega))
          rw [hx1] at c1 hh1 hnew
          rw [hx2] at c2 hh2 hnew
          have hrd := reads_row wr 5 [.int .u8 37, .int .u8 (x1 : Int), .int .u8 (x2 : Int)]
          have hcs : Hid (([.int .u8 37, .int .u8 (x1 : Int), .int .u8 (x2 : Int)] : List Value) = Lib.byteCells [37, UInt8.ofNat x1, UInt8.ofNat x2]) := by
            show _ = _
            simp [Lib.byteCells, Nat.mod_eq_of_lt hh1, Nat.mod_eq_of_lt hh2]
          clear hx1 hx2 hp
          have hcase : form = false ∨ form = true ∧ ((b : Int) == 32) = false := by
            cases form
            · exact .inl rfl
            · right
              refine ⟨rfl, ?_⟩
              rw [beq_eq_false_iff_ne]
              intro e
              exact h32 ⟨rfl, by omega⟩
          clear h32
          rcases hcase with rfl | ⟨rfl, hq⟩
          all_goals
            go_wp2_with fail
            refine (cp.out _).mono ?_
            rintro _ w1 ⟨rfl, rfl⟩
            go_wp2_with fail
            refine (c1.out _).mono ?_
            rintro _ w1 ⟨rfl, rfl⟩
            go_wp2_with fail
            refine (c2.out _).mono ?_
            rintro _ w1 ⟨rfl, rfl⟩
            go_wp2_with (at_builtin; refine wpList_append_any (wr.alloc (.cells #[.int .u8 37, .int .u8 (x1 : Int), .int .u8 (x2 : Int)] 5)) rfl (.tmp 17) (.tmp 26) 81 rfl w.heap.size 5 i0 (.int .u8 0) 1 1 Tryz.underlying81 hi hz0 hz1 hz2 rfl (by decide) u5 o.length (Lib.byteCells o) rfl (hown.alloc _) (wr.heap.size + 1) _ 3 3 [.int .u8 37, .int .u8 (x1 : Int), .int .u8 (x2 : Int)] rfl hrd (by simp [Value.oneCell']) (by unfold maxLen; omega) (by omega) (by have := hbl.size; simp; omega) ?_; intro v' w2 hown2 hg2 hat2)
            have hbl2 : Below w.heap.size w w2 := (hbl.alloc hbl.size _).grown hg2 (by have := hbl.size; simp; omega) (fun g hg => by have := hown.lt g hg; omega)
            have hown3 := own_next (news := [37, UInt8.ofNat x1, UInt8.ofNat x2]) hown2 (hcs.out) rfl (HST.out.trans (congrArg (o ++ ·) hnew.out))
            exact ⟨⟨k + 1, by omega, by go_num, hown3, hbl2⟩, by simp [intOf]; omega⟩
      · rw [hp] at cp
        have hnew : Hid (encB form (l.getD k 0) = [l.getD k 0]) := by
          show _ = _
          have := plain_no ⟨b, hb2⟩ hp
          simp only at this
          rw [encB, hb.out, hp]
          simp [this.2.2]
        have hrd := reads_row wr 5 [.int .u8 (b : Int)]
        clear hp
        go_wp2_with fail
        refine (cp.out _).mono ?_
        rintro _ w1 ⟨rfl, rfl⟩
        go_wp2_with (at_builtin; refine wpList_append_any (wr.alloc (.cells #[.int .u8 (b : Int)] 5)) rfl (.tmp 31) (.tmp 33) 81 rfl w.heap.size 5 i0 (.int .u8 0) 1 1 Tryz.underlying81 hi hz0 hz1 hz2 rfl (by decide) u5 o.length (Lib.byteCells o) rfl (hown.alloc _) (wr.heap.size + 1) _ 1 1 [.int .u8 (b : Int)] rfl hrd (by simp [Value.oneCell']) (by unfold maxLen; omega) (by omega) (by have := hbl.size; simp; omega) ?_; intro v' w2 hown2 hg2 hat2)
        have hbl2 : Below w.heap.size w w2 := (hbl.alloc hbl.size _).grown hg2 (by have := hbl.size; simp; omega) (fun g hg => by have := hown.lt g hg; omega)
        have hown3 := own_next (news := [l.getD k 0]) hown2 (cells_one hb.out) rfl (HST.out.trans (congrArg (o ++ ·) hnew.out))
        exact ⟨⟨k + 1, by omega, by go_num, hown3, hbl2⟩, by simp [intOf]; omega⟩
    · have hke : k = l.length := by omega
      rw [hke, List.take_length] at ho
      have hln : o.length = o.length := rfl
      obtain ⟨A, c, rfl, hnc, hrd⟩ := own_reads hown (Nat.le_refl _)
      have hst := reads_str (P := Tryz.prog) (c := c) hrd 81 9 5 Tryz.underlying81 Tryz.underlying5 Tryz.underlying9
      have HO := Lib.hid ho
      clear ho hke hln hrd
      go_wp2_with fail
      go_ret
      exact ⟨by rw [HO.out]; rfl, hbl⟩
end Go.Proofs.YtolfcpbcccbmmaaGreatDoor

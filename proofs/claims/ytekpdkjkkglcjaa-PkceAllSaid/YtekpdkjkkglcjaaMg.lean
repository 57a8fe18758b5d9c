import Derived.Test.YtekpdkjkkglcjaaMf
set_option linter.unusedVariables false
set_option linter.unusedSimpArgs false
set_option maxRecDepth 20000
namespace Go.Proofs.Ytekpdkjkkglcjaa
open Go.RowKit B64
set_option maxHeartbeats 2000000 in
theorem renc_walk (A : Option Addr) (m c : Nat) (l : List UInt8) (w : World) (hr : Reads w w.heap.size 1 A m (Lib.byteCells l)) (hm : m ≤ 1000000) :
    Calls Try.prog 25 #[.slice A m c] w fun e w' => e = .returned (.string ⟨(enc l).toArray⟩) ∧ Below w.heap.size w w' := by
  have hl := hr.get
  obtain ⟨i0, hi, hz0, hz1, hz2⟩ := info_parts info5
  go_enter Try.func25, Try.ntmps25
  go_wp2_with fail
  go_loopw [3, 4] (fun ov iv wr => ∃ k : Nat, iv = .int .i64 k ∧ Hid (k % 3 = 0) ∧ k ≤ m + 2 ∧ wr.ownsRow w.heap.size 5 1 ov (encTo l k 0).length (Lib.byteCells (encTo l k 0)) ∧ Below w.heap.size w wr) (fun _ iv _ => m + 3 - (intOf iv).toNat)
  case atStart => exact ⟨0, rfl, rfl, by omega, World.ownsRow_nil _ _ _ _, Below.refl _ _⟩
  case round =>
    obtain ⟨k, rfl, hk3, hkm, hown, hbl⟩ := hrel
    by_cases hlt : k < m
    · have hr1 := hr.below hbl
      go_wp2_with fail
      go_loop [5, 6, 7] (fun vv nv jv => ∃ j : Nat, j ≤ 3 ∧ jv = .int .i64 j ∧ vv = .int .i64 (volTo (l.drop k) j : Nat) ∧ nv = .int .i64 (min j (m - k) : Nat)) (fun _ _ jv => 3 - (intOf jv).toNat)
      case atStart => exact ⟨0, by omega, rfl, rfl, by simp⟩
      case round =>
        obtain ⟨j, hj, rfl, rfl, rfl⟩ := hrel
        by_cases hj3 : j < 3
        · have hv := volTo_lt (l.drop k) j
          have hv2 : volTo (l.drop k) j < 65536 := Nat.lt_of_lt_of_le hv (Nat.pow_le_pow_right (n := 256) (by decide) (show j ≤ 2 by omega))
          clear hv
          generalize hgv : volTo (l.drop k) j = v at *
          have HV := Lib.hid hgv
          clear hgv
          by_cases hkj : k + j < m
          · obtain ⟨b, o, x, rfl, hb, hcell, hx, hxl⟩ := hr1.byteN hkj
            go_wp2_with fail
            have e : volTo (l.drop k) (j + 1) = v * 256 + x := by
              rw [volTo, HV.out, ← hxl.out]; simp [List.getElem?_drop]
            exact ⟨⟨j + 1, by omega, by go_num, by rw [e]; go_num, by rw [show min (j + 1) (m - k) = min j (m - k) + 1 by omega]; go_num⟩, by simp [intOf]; omega⟩
          · go_wp2_with fail
            have e : volTo (l.drop k) (j + 1) = v * 256 := by
              rw [volTo, HV.out]
              simp [List.getElem?_drop, List.getElem?_eq_none (show l.length ≤ k + j by omega)]
            exact ⟨⟨j + 1, by omega, by go_num, by rw [e]; go_num, by rw [show min (j + 1) (m - k) = min j (m - k) by omega]⟩, by simp [intOf]; omega⟩
        · have hj3' : j = 3 := by omega
          subst hj3'
          have hv := volTo_lt (l.drop k) 3
          have hv2 : volTo (l.drop k) 3 < 16777216 := hv
          clear hv
          obtain ⟨v, hgv⟩ : ∃ v, volTo (l.drop k) 3 = v := ⟨_, rfl⟩
          rw [hgv] at hv2
          rw [hgv]
          have HV := Lib.hid hgv
          clear hgv hj hj3
          obtain ⟨n, hn1, hn3, hn, hnm⟩ : ∃ n, 1 ≤ n ∧ n ≤ 3 ∧ min 3 (m - k) = n ∧ Hid (n = min 3 (m - k)) := ⟨min 3 (m - k), by omega, by omega, rfl, rfl⟩
          rw [hn]
          clear hn
          go_wp2_with fail
          go_loopw [3, 8] (fun ov kv wr => ∃ j : Nat, j ≤ n + 1 ∧ kv = .int .i64 j ∧ wr.ownsRow w.heap.size 5 1 ov (encTo l k j).length (Lib.byteCells (encTo l k j)) ∧ Below w.heap.size w wr) (fun _ kv _ => n + 1 - (intOf kv).toNat)
          case atStart => exact ⟨0, by omega, rfl, hown, hbl⟩
          case round =>
            clear hown hbl hr1
            obtain ⟨j, hj, rfl, hown, hbl⟩ := hrel
            by_cases hjn : j < n + 1
            · have hsg := sign_ix (sxv v j) (sxv_lt v j)
              have hsh := shr_and v j (by omega) hv2
              have hle := encTo_le l k j
              have HE := Lib.hid (encTo_succ l k j)
              rw [show sgn (sxt ((l.drop k).take 3) j) = sgn (sxv v j) by rw [← sxv_vol, HV.out]] at HE
              go_wp2_with (at_builtin; go_loud (refine wpList_append_new wr rfl (.tmp 43) (.tmp 51) 49 rfl w.heap.size 5 i0 (.int .u8 0) 1 1 Try.underlying49 hi hz0 hz1 hz2 rfl (by decide) u3 (encTo l k j).length (Lib.byteCells (encTo l k j)) rfl hown [.int .u8 ((sgn (sxv v j)).toNat : Int)] rfl rfl (by simp [Value.oneCell']) (by unfold maxLen; omega) (by omega) hbl.size ?_); intro v' w2 hown2 hg2)
              have hown3 : w2.ownsRow w.heap.size 5 1 v' (encTo l k (j + 1)).length (Lib.byteCells (encTo l k (j + 1))) := by
                rw [HE.out, Lib.byteCells_append, List.length_append]
                exact hown2
              have hbl3 := grown_below hbl hown hg2 hbl.size
              clear HE hown2 hg2 hsh hsg hown hbl
              go_wp2_with fail
              go_roundw
              case rel =>
                first | exact ⟨j + 1, by omega, by go_num, hown3, hbl3⟩ | ((repeat apply Exists.intro); exact ⟨⟨j + 1, by omega, by go_num, hown3, hbl3⟩, rfl⟩)
              case measure => simp [intOf]; omega
            · have hj1 : j = n + 1 := by omega
              subst hj1
              have e1 := encTo_next l k n (by omega) (by right; exact hk3.out) (by rw [hl]; exact hnm.out)
              have e2 := encTo_more l k n (by omega) (by rw [hl]; exact hnm.out)
              rw [e1, e2] at hown
              clear e1 e2
              go_wp2_with fail
              exact ⟨⟨k + 3, by go_num, by have := hk3.out; show _ = _; omega, by omega, hown, hbl⟩, by simp [intOf]; omega⟩
    · obtain ⟨A', c', hu3, hnc, hrd⟩ := own_reads hown (Nat.le_refl _)
      have he : encTo l k 0 = enc l := by rw [encTo_zero, List.take_of_length_le (by omega)]
      have hcv : (convert 49 9 (.slice A' (encTo l k 0).length c')).run Try.prog wr = .ok (.string ⟨(enc l).toArray⟩) wr := by
        rw [reads_str (c := c') hrd 49 9 5 Try.underlying49 Try.underlying5 Try.underlying9, he]
      subst hu3
      clear he hown hrd
      go_wp2_with fail
      go_ret
      exact ⟨rfl, hbl⟩
end Go.Proofs.Ytekpdkjkkglcjaa

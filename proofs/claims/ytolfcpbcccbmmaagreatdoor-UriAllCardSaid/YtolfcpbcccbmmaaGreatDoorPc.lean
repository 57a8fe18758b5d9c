import Derived.Test.YtolfcpbcccbmmaaGreatDoorPb
import Derived.Deep.RegionHeld3
set_option linter.unusedVariables false
set_option linter.unusedSimpArgs false
set_option maxRecDepth 20000
namespace Go.Proofs.YtolfcpbcccbmmaaGreatDoor
open Go.RowKit Pc
/-- what a reading gives: the text, and the errno -/
def decV (r : Option (List UInt8)) : Value := match r with
  | some b => .tuple #[.string ⟨b.toArray⟩, .int .i64 0]
  | none => .tuple #[.string ⟨#[]⟩, .int .i64 3]
theorem drop_head {l : List UInt8} {k : Nat} (h : k < l.length) : l.drop k = l.getD k 0 :: l.drop (k + 1) := by
  rw [List.drop_eq_getElem_cons h, List.getD_eq_getElem?_getD, List.getElem?_eq_getElem h, Option.getD_some]
theorem rdec_next {form : Bool} {l acc acc' : List UInt8} {k n : Nat} {c : UInt8} (h : rdecL form l = (rdecL form (l.drop k)).map (acc ++ ·)) (hk : k < l.length) (hr : rone form (l.drop k) = some (c, n)) (ha : acc' = acc ++ [c]) : rdecL form l = (rdecL form (l.drop (k + n))).map (acc' ++ ·) := by
  have hne : l.drop k ≠ [] := by
    intro e
    have := congrArg List.length e
    rw [List.length_drop, List.length_nil] at this
    omega
  rw [h, rdecL_step form _ hne, hr]
  simp only
  rw [List.drop_drop, Option.map_map, ha]
  congr 1
  funext x
  simp
theorem rdec_stop {form : Bool} {l acc : List UInt8} {k : Nat} (h : rdecL form l = (rdecL form (l.drop k)).map (acc ++ ·)) (hk : k < l.length) (hr : rone form (l.drop k) = none) : decL form l = none := by
  have hne : l.drop k ≠ [] := by
    intro e
    have := congrArg List.length e
    rw [List.length_drop, List.length_nil] at this
    omega
  rw [decL_ref, h, rdecL_step form _ hne, hr]
  rfl
theorem dgI_some {c x : Nat} (h : dg c = some x) : dgI c = x := by rw [dgI, h]
theorem dgI_none {c : Nat} (h : dg c = none) : dgI c = -1 := by rw [dgI, h]
set_option maxHeartbeats 4000000 in
set_option maxRecDepth 100000 in
theorem rdec_walk (s : ByteArray) (l : List UInt8) (hs : s.data.toList = l) (form : Bool) (w : World) (hm : s.size ≤ 1000000) :
    Calls Tryz.prog 52 #[.string s, .bool form] w fun e w' => e = .returned (decV (decL form l)) ∧ Below w.heap.size w w' := by
  have hsz : l.length = s.size := by rw [← hs, Lib.size_eq]
  obtain ⟨i0, hi, hz0, hz1, hz2⟩ := info_parts info_u8
  go_enter Tryz.func52, Tryz.ntmps52
  go_wp2_with fail
  go_loopw [6, 7] (fun ov nv wr => ∃ (k : Nat) (o : List UInt8), k ≤ s.size ∧ nv = .int .i64 k ∧ o.length ≤ k ∧ wr.ownsRow w.heap.size 5 1 ov o.length (Lib.byteCells o) ∧ Hid (rdecL form l = (rdecL form (l.drop k)).map (o ++ ·)) ∧ Below w.heap.size w wr) (fun _ nv _ => s.size - (intOf nv).toNat)
  case atStart => exact ⟨0, [], by omega, rfl, by simp, World.ownsRow_nil _ _ _ _, by show _ = _; simp, Below.refl _ _⟩
  case round =>
    obtain ⟨k, o, hk, rfl, hok, hown, hrd0, hbl⟩ := hrel
    by_cases hlt : k < s.size
    · obtain ⟨b, eb, hb, hb2⟩ : ∃ b : Nat, (s[k]'hlt).toNat = b ∧ Hid ((l.getD k 0).toNat = b) ∧ b < 256 := ⟨_, str_at hs hlt, rfl, (l.getD k 0).toNat_lt⟩
      have cp := Lib.hid (rplain_walk b)
      rw [rplain_eq ⟨b, hb2⟩] at cp
      have hdr := Lib.hid (drop_head (l := l) (k := k) (by omega))
      cases hp : plainB b
      · rw [hp] at cp
        by_cases h43 : form = true ∧ b = 43
        · obtain ⟨rfl, rfl⟩ := h43
          have HR : Hid (rone true (l.drop k) = some (32, 1)) := by
            show _ = _
            rw [hdr.out, rone_cons, hb.out, hp]
            rfl
          have hrd := reads_row wr 5 [.int .u8 32]
          have hl2 := Lib.hid (show k < l.length by omega)
          clear hp hdr
          go_wp2_with fail
          refine (cp.out _).mono ?_
          rintro _ w1 ⟨rfl, rfl⟩
          go_wp2_with (at_builtin; refine wpList_append_any (wr.alloc (.cells #[.int .u8 32] 5)) rfl (.tmp 31) (.tmp 32) 81 rfl w.heap.size 5 i0 (.int .u8 0) 1 1 Tryz.underlying81 hi hz0 hz1 hz2 rfl (by decide) u6 o.length (Lib.byteCells o) rfl (hown.alloc _) (wr.heap.size + 1) _ 1 1 [.int .u8 32] rfl hrd (by simp [Value.oneCell']) (by unfold maxLen; omega) (by omega) (by have := hbl.size; simp; omega) ?_; intro v' w2 hown2 hg2 hat2)
          have hbl2 : Below w.heap.size w w2 := (hbl.alloc hbl.size _).grown hg2 (by have := hbl.size; simp; omega) (fun g hg => by have := hown.lt g hg; omega)
          have hown3 := own_next (o' := o ++ [32]) (news := [32]) hown2 rfl rfl rfl
          exact ⟨⟨k + 1, o ++ [32], by omega, by go_num, by simp; omega, hown3, rdec_next hrd0.out hl2.out HR.out rfl, hbl2⟩, by simp [intOf]; omega⟩
        · have hcase : form = false ∨ form = true ∧ ((b : Int) == 43) = false := by
            cases form
            · exact .inl rfl
            · right
              refine ⟨rfl, ?_⟩
              rw [beq_eq_false_iff_ne]
              intro e
              exact h43 ⟨rfl, by omega⟩
          by_cases h37 : b = 37
          · by_cases hk2 : k + 2 < s.size
            · obtain ⟨x, ex, hx, hx2⟩ : ∃ x : Nat, (s[k + 1]'(by omega)).toNat = x ∧ Hid ((l.getD (k + 1) 0).toNat = x) ∧ x < 256 := ⟨_, str_at hs (by omega), rfl, (l.getD (k + 1) 0).toNat_lt⟩
              obtain ⟨y, ey, hy, hy2⟩ : ∃ y : Nat, (s[k + 2]'hk2).toNat = y ∧ Hid ((l.getD (k + 2) 0).toNat = y) ∧ y < 256 := ⟨_, str_at hs hk2, rfl, (l.getD (k + 2) 0).toNat_lt⟩
              have cx := Lib.hid (fun w => rdig_walk x w hx2)
              have cy := Lib.hid (fun w => rdig_walk y w hy2)
              have hd1 := Lib.hid (drop_head (l := l) (k := k + 1) (by omega))
              have hd2 := Lib.hid (drop_head (l := l) (k := k + 2) (by omega))
              have htail : l.drop (k + 1) = l.getD (k + 1) 0 :: l.getD (k + 2) 0 :: l.drop (k + 3) := by rw [hd1.out, hd2.out]
              have h37i : ((b : Int) == 37) = true := by rw [beq_iff_eq]; omega
              cases da : dg x with
              | none =>
                have HR : Hid (rone form (l.drop k) = none) := by
                  show _ = _
                  rw [hdr.out, rone_cons, hb.out, hp, if_neg (by simp), if_neg (by simpa using h43), if_pos h37, htail, rtwo_cons, hx.out, da]
                have hv := Lib.hid (rdec_stop hrd0.out (by omega) HR.out)
                rw [dgI_none da] at cx
                clear h43 hp hdr hrd0 HR h37 htail hd1 hd2 da
                rcases hcase with rfl | ⟨rfl, hq⟩
                all_goals
                  go_wp2_with fail
                  refine (cp.out _).mono ?_
                  rintro _ w1 ⟨rfl, rfl⟩
                  go_wp2_with fail
                  refine (cx.out _).mono ?_
                  rintro _ w1 ⟨rfl, rfl⟩
                  go_wp2_with fail
                  go_ret2
                  exact ⟨by rw [hv.out]; rfl, hbl⟩
              | some p =>
                obtain ⟨hp16, _⟩ := dg_hx da
                cases db : dg y with
                | none =>
                  have HR : Hid (rone form (l.drop k) = none) := by
                    show _ = _
                    rw [hdr.out, rone_cons, hb.out, hp, if_neg (by simp), if_neg (by simpa using h43), if_pos h37, htail, rtwo_cons, hx.out, hy.out, da, db]
                  have hv := Lib.hid (rdec_stop hrd0.out (by omega) HR.out)
                  rw [dgI_some da] at cx
                  rw [dgI_none db] at cy
                  clear h43 hp hdr hrd0 HR h37 htail hd1 hd2 da db
                  rcases hcase with rfl | ⟨rfl, hq⟩
                  all_goals
                    go_wp2_with fail
                    refine (cp.out _).mono ?_
                    rintro _ w1 ⟨rfl, rfl⟩
                    go_wp2_with fail
                    refine (cx.out _).mono ?_
                    rintro _ w1 ⟨rfl, rfl⟩
                    go_wp2_with fail
                    refine (cy.out _).mono ?_
                    rintro _ w1 ⟨rfl, rfl⟩
                    go_wp2_with fail
                    go_ret2
                    exact ⟨by rw [hv.out]; rfl, hbl⟩
                | some q =>
                  obtain ⟨hq16, _⟩ := dg_hx db
                  have HR : Hid (rone form (l.drop k) = some (UInt8.ofNat (p * 16 + q), 3)) := by
                    show _ = _
                    rw [hdr.out, rone_cons, hb.out, hp, if_neg (by simp), if_neg (by simpa using h43), if_pos h37, htail, rtwo_cons, hx.out, hy.out, da, db]
                  rw [dgI_some da] at cx
                  rw [dgI_some db] at cy
                  have hl2 := Lib.hid (show k < l.length by omega)
                  clear h43 hp hdr h37 htail hd1 hd2 da db
                  rcases hcase with rfl | ⟨rfl, hq⟩
                  all_goals
                    go_wp2_with fail
                    refine (cp.out _).mono ?_
                    rintro _ w1 ⟨rfl, rfl⟩
                    go_wp2_with fail
                    refine (cx.out _).mono ?_
                    rintro _ w1 ⟨rfl, rfl⟩
                    go_wp2_with fail
                    refine (cy.out _).mono ?_
                    rintro _ w1 ⟨rfl, rfl⟩
                    go_wp2_with fail
                    have hs1 : IntKind.i64.wrap ((k : Int) + 1) = (k : Int) + 1 := IntWalk.i64_in _ (by omega)
                    have hs2 : IntKind.i64.wrap ((k : Int) + 2) = (k : Int) + 2 := IntWalk.i64_in _ (by omega)
                    have hs3 : IntKind.i64.wrap ((p : Int) * 16) = (p : Int) * 16 := IntWalk.i64_in _ (by omega)
                    have hs4 : IntKind.i64.wrap ((p : Int) * 16 + (q : Int)) = (p : Int) * 16 + (q : Int) := IntWalk.i64_in _ (by omega)
                    have hs5 : IntKind.u8.wrap ((p : Int) * 16 + (q : Int)) = (p : Int) * 16 + (q : Int) := by rw [IntKind.wrap_u8]; omega
                    have g1 : (0 : Int) ≤ (k : Int) + 1 := by omega
                    have g2 : (0 : Int) ≤ (k : Int) + 2 := by omega
                    have g3 : (k : Int) + 1 < (s.size : Int) := by omega
                    have g4 : (k : Int) + 2 < (s.size : Int) := by omega
                    have g5 : ((k : Int) + 1).toNat = k + 1 := by omega
                    have g6 : ((k : Int) + 2).toNat = k + 2 := by omega
                    have g7 : (0 : Int) ≤ (p : Int) * 16 + (q : Int) := by omega
                    have g8 : (p : Int) * 16 + (q : Int) < 256 := by omega
                    have hrd : Reads (wr.alloc (.cells #[.int .u8 ((p : Int) * 16 + (q : Int))] 5)).drew (wr.heap.size + 1) 1 (some ⟨wr.heap.size, 0, none⟩) 1 [.int .u8 ((p : Int) * 16 + (q : Int))] := reads_row wr 5 [.int .u8 ((p : Int) * 16 + (q : Int))]
                    refine wp_region_held_drew (S := fun _ => True) (by kernel_rfl) trivial (fun hHeld => ?_)
                    first | (refine wpAnyH_take (i := 0) (v := _) rfl (by kernel_rfl) (by kernel_rfl) (by kernel_rfl) (fun _ _ _ h => h) (Or.inr ⟨?_, rfl⟩) (by assumption) ?_; rfl) | (refine wpAnyH_take (i := 0) (v := ?_) rfl (by kernel_rfl) (by kernel_rfl) (by kernel_rfl) (fun _ _ _ h => h) (Or.inl ⟨?_, ?_⟩) (by assumption) ?_; rotate_left; rfl; focus (intro w hSw; (try dsimp only at hSw); go_simp; all_goals (with_reducible rfl)))
                    (try simp only [List.getElem_toArray, List.getElem_cons_zero, List.getElem_cons_succ, Act.put, List.setIfInBounds_toArray, List.set_cons_zero, List.set_cons_succ])
                    first | (refine wpAnyH_take (i := 1) (v := _) rfl (by kernel_rfl) (by kernel_rfl) (by kernel_rfl) (fun _ _ _ h => h) (Or.inr ⟨?_, rfl⟩) (by assumption) ?_; rfl) | (refine wpAnyH_take (i := 1) (v := ?_) rfl (by kernel_rfl) (by kernel_rfl) (by kernel_rfl) (fun _ _ _ h => h) (Or.inl ⟨?_, ?_⟩) (by assumption) ?_; rotate_left; rfl; focus (intro w hSw; (try dsimp only at hSw); go_simp; all_goals (with_reducible rfl)))
                    (try simp only [List.getElem_toArray, List.getElem_cons_zero, List.getElem_cons_succ, Act.put, List.setIfInBounds_toArray, List.set_cons_zero, List.set_cons_succ])
                    first | (refine wpAnyH_take (i := 2) (v := _) rfl (by kernel_rfl) (by kernel_rfl) (by kernel_rfl) (fun _ _ _ h => h) (Or.inr ⟨?_, rfl⟩) (by assumption) ?_; rfl) | (refine wpAnyH_take (i := 2) (v := ?_) rfl (by kernel_rfl) (by kernel_rfl) (by kernel_rfl) (fun _ _ _ h => h) (Or.inl ⟨?_, ?_⟩) (by assumption) ?_; rotate_left; rfl; focus (intro w hSw; (try dsimp only at hSw); go_simp; all_goals (with_reducible rfl)))
                    (try simp only [List.getElem_toArray, List.getElem_cons_zero, List.getElem_cons_succ, Act.put, List.setIfInBounds_toArray, List.set_cons_zero, List.set_cons_succ])
                    first | (refine wpAnyH_take (i := 3) (v := _) rfl (by kernel_rfl) (by kernel_rfl) (by kernel_rfl) (fun _ _ _ h => h) (Or.inr ⟨?_, rfl⟩) (by assumption) ?_; rfl) | (refine wpAnyH_take (i := 3) (v := ?_) rfl (by kernel_rfl) (by kernel_rfl) (by kernel_rfl) (fun _ _ _ h => h) (Or.inl ⟨?_, ?_⟩) (by assumption) ?_; rotate_left; rfl; focus (intro w hSw; (try dsimp only at hSw); go_simp; all_goals (with_reducible rfl)))
                    (try simp only [List.getElem_toArray, List.getElem_cons_zero, List.getElem_cons_succ, Act.put, List.setIfInBounds_toArray, List.set_cons_zero, List.set_cons_succ])
                    first | (refine wpAnyH_take (i := 4) (v := _) rfl (by kernel_rfl) (by kernel_rfl) (by kernel_rfl) (fun _ _ _ h => h) (Or.inr ⟨?_, rfl⟩) (by assumption) ?_; rfl) | (refine wpAnyH_take (i := 4) (v := ?_) rfl (by kernel_rfl) (by kernel_rfl) (by kernel_rfl) (fun _ _ _ h => h) (Or.inl ⟨?_, ?_⟩) (by assumption) ?_; rotate_left; rfl; focus (intro w hSw; (try dsimp only at hSw); go_simp; all_goals (with_reducible rfl)))
                    (try simp only [List.getElem_toArray, List.getElem_cons_zero, List.getElem_cons_succ, Act.put, List.setIfInBounds_toArray, List.set_cons_zero, List.set_cons_succ])
                    first | (refine wpAnyH_take (i := 7) (v := _) rfl (by kernel_rfl) (by kernel_rfl) (by kernel_rfl) (fun _ _ _ h => h) (Or.inr ⟨?_, rfl⟩) (by assumption) ?_; rfl) | (refine wpAnyH_take (i := 7) (v := ?_) rfl (by kernel_rfl) (by kernel_rfl) (by kernel_rfl) (fun _ _ _ h => h) (Or.inl ⟨?_, ?_⟩) (by assumption) ?_; rotate_left; rfl; focus (intro w hSw; (try dsimp only at hSw); go_simp; all_goals (with_reducible rfl)))
                    (try simp only [List.getElem_toArray, List.getElem_cons_zero, List.getElem_cons_succ, Act.put, List.setIfInBounds_toArray, List.set_cons_zero, List.set_cons_succ])
                    first | (refine wpAnyH_take (i := 8) (v := _) rfl (by kernel_rfl) (by kernel_rfl) (by kernel_rfl) (fun _ _ _ h => h) (Or.inr ⟨?_, rfl⟩) (by assumption) ?_; rfl) | (refine wpAnyH_take (i := 8) (v := ?_) rfl (by kernel_rfl) (by kernel_rfl) (by kernel_rfl) (fun _ _ _ h => h) (Or.inl ⟨?_, ?_⟩) (by assumption) ?_; rotate_left; rfl; focus (intro w hSw; (try dsimp only at hSw); go_simp; all_goals (with_reducible rfl)))
                    (try simp only [List.getElem_toArray, List.getElem_cons_zero, List.getElem_cons_succ, Act.put, List.setIfInBounds_toArray, List.set_cons_zero, List.set_cons_succ])
                    first | (refine wpAnyH_take (i := 9) (v := _) rfl (by kernel_rfl) (by kernel_rfl) (by kernel_rfl) (fun _ _ _ h => h) (Or.inr ⟨?_, rfl⟩) (by assumption) ?_; rfl) | (refine wpAnyH_take (i := 9) (v := ?_) rfl (by kernel_rfl) (by kernel_rfl) (by kernel_rfl) (fun _ _ _ h => h) (Or.inl ⟨?_, ?_⟩) (by assumption) ?_; rotate_left; rfl; focus (intro w hSw; (try dsimp only at hSw); go_simp; all_goals (with_reducible rfl)))
                    (try simp only [List.getElem_toArray, List.getElem_cons_zero, List.getElem_cons_succ, Act.put, List.setIfInBounds_toArray, List.set_cons_zero, List.set_cons_succ])
                    first | (refine wpAnyH_take (i := 10) (v := _) rfl (by kernel_rfl) (by kernel_rfl) (by kernel_rfl) (fun _ _ _ h => h) (Or.inr ⟨?_, rfl⟩) (by assumption) ?_; rfl) | (refine wpAnyH_take (i := 10) (v := ?_) rfl (by kernel_rfl) (by kernel_rfl) (by kernel_rfl) (fun _ _ _ h => h) (Or.inl ⟨?_, ?_⟩) (by assumption) ?_; rotate_left; rfl; focus (intro w hSw; (try dsimp only at hSw); go_simp; all_goals (with_reducible rfl)))
                    (try simp only [List.getElem_toArray, List.getElem_cons_zero, List.getElem_cons_succ, Act.put, List.setIfInBounds_toArray, List.set_cons_zero, List.set_cons_succ])
                    refine wpAnyH_ready (rs := [5]) (by kernel_rfl) (by simp) ?_
                    refine AllReadyH.cons rfl (fun K hK => ?_) AllReadyH.nil
                    go_simp
                    refine (cx.out _).mono ?_
                    rintro _ w9 ⟨rfl, rfl⟩
                    go_simp
                    refine hK.out _ _ trivial (fun hHeld => ?_)
                    clear hK K
                    (try simp only [List.getElem_toArray, List.getElem_cons_zero, List.getElem_cons_succ, Act.put, List.setIfInBounds_toArray, List.set_cons_zero, List.set_cons_succ])
                    first | (refine wpAnyH_take (i := 6) (v := _) rfl (by kernel_rfl) (by kernel_rfl) (by kernel_rfl) (fun _ _ _ h => h) (Or.inr ⟨?_, rfl⟩) (by assumption) ?_; rfl) | (refine wpAnyH_take (i := 6) (v := ?_) rfl (by kernel_rfl) (by kernel_rfl) (by kernel_rfl) (fun _ _ _ h => h) (Or.inl ⟨?_, ?_⟩) (by assumption) ?_; rotate_left; rfl; focus (intro w hSw; (try dsimp only at hSw); go_simp; all_goals (with_reducible rfl)))
                    (try simp only [List.getElem_toArray, List.getElem_cons_zero, List.getElem_cons_succ, Act.put, List.setIfInBounds_toArray, List.set_cons_zero, List.set_cons_succ])
                    refine wpAnyH_ready (rs := [11]) (by kernel_rfl) (by simp) ?_
                    refine AllReadyH.cons rfl (fun K hK => ?_) AllReadyH.nil
                    go_simp
                    refine (cy.out _).mono ?_
                    rintro _ w9 ⟨rfl, rfl⟩
                    go_simp
                    refine hK.out _ _ trivial (fun hHeld => ?_)
                    clear hK K
                    (try simp only [List.getElem_toArray, List.getElem_cons_zero, List.getElem_cons_succ, Act.put, List.setIfInBounds_toArray, List.set_cons_zero, List.set_cons_succ])
                    first | (refine wpAnyH_take (i := 12) (v := _) rfl (by kernel_rfl) (by kernel_rfl) (by kernel_rfl) (fun _ _ _ h => h) (Or.inr ⟨?_, rfl⟩) (by assumption) ?_; rfl) | (refine wpAnyH_take (i := 12) (v := ?_) rfl (by kernel_rfl) (by kernel_rfl) (by kernel_rfl) (fun _ _ _ h => h) (Or.inl ⟨?_, ?_⟩) (by assumption) ?_; rotate_left; rfl; focus (intro w hSw; (try dsimp only at hSw); go_simp; all_goals (with_reducible rfl)))
                    (try simp only [List.getElem_toArray, List.getElem_cons_zero, List.getElem_cons_succ, Act.put, List.setIfInBounds_toArray, List.set_cons_zero, List.set_cons_succ])
                    first | (refine wpAnyH_take (i := 13) (v := _) rfl (by kernel_rfl) (by kernel_rfl) (by kernel_rfl) (fun _ _ _ h => h) (Or.inr ⟨?_, rfl⟩) (by assumption) ?_; rfl) | (refine wpAnyH_take (i := 13) (v := ?_) rfl (by kernel_rfl) (by kernel_rfl) (by kernel_rfl) (fun _ _ _ h => h) (Or.inl ⟨?_, ?_⟩) (by assumption) ?_; rotate_left; rfl; focus (intro w hSw; (try dsimp only at hSw); go_simp; all_goals (with_reducible rfl)))
                    (try simp only [List.getElem_toArray, List.getElem_cons_zero, List.getElem_cons_succ, Act.put, List.setIfInBounds_toArray, List.set_cons_zero, List.set_cons_succ])
                    refine wpAnyH_ready (rs := [14]) (by kernel_rfl) (by simp) ?_
                    refine AllReadyH.cons rfl (fun K hK => ?_) AllReadyH.nil
                    go_simp
                    refine hK.out _ _ trivial (fun hHeld => ?_)
                    clear hK K
                    (try simp only [List.getElem_toArray, List.getElem_cons_zero, List.getElem_cons_succ, Act.put, List.setIfInBounds_toArray, List.set_cons_zero, List.set_cons_succ])
                    refine wpAnyH_ready (rs := [15]) (by kernel_rfl) (by simp) ?_
                    refine AllReadyH.cons rfl (fun K hK => ?_) AllReadyH.nil
                    refine step_append_any (wr.alloc (.cells #[.int .u8 ((p : Int) * 16 + (q : Int))] 5)).drew (by rfl) (.tmp 60) (.tmp 74) 81 (by rfl) w.heap.size 5 i0 (.int .u8 0) 1 1 Tryz.underlying81 hi hz0 hz1 hz2 rfl (by decide) u6 o.length (Lib.byteCells o) (by rfl) ((hown.alloc _).drew) (wr.heap.size + 1) (some ⟨wr.heap.size, 0, none⟩) 1 1 [.int .u8 ((p : Int) * 16 + (q : Int))] (by rfl) hrd (by simp [Value.oneCell']) (by unfold maxLen; omega) (by omega) (by have := hbl.size; simp; omega) ?_
                    intro v' w2 hown2 hg2 hat2
                    refine hK.out _ _ trivial (fun hHeld => ?_)
                    clear hK K
                    (try simp only [List.getElem_toArray, List.getElem_cons_zero, List.getElem_cons_succ, Act.put, List.setIfInBounds_toArray, List.set_cons_zero, List.set_cons_succ])
                    first | (refine wpAnyH_take (i := 16) (v := _) rfl (by kernel_rfl) (by kernel_rfl) (by kernel_rfl) (fun _ _ _ h => h) (Or.inr ⟨?_, rfl⟩) (by assumption) ?_; rfl) | (refine wpAnyH_take (i := 16) (v := ?_) rfl (by kernel_rfl) (by kernel_rfl) (by kernel_rfl) (fun _ _ _ h => h) (Or.inl ⟨?_, ?_⟩) (by assumption) ?_; rotate_left; rfl; focus (intro w hSw; (try dsimp only at hSw); go_simp; all_goals (with_reducible rfl)))
                    (try simp only [List.getElem_toArray, List.getElem_cons_zero, List.getElem_cons_succ, Act.put, List.setIfInBounds_toArray, List.set_cons_zero, List.set_cons_succ])
                    refine wpAnyH_done (by kernel_rfl) ?_ _
                    clear hs1 hs2 hs3 hs4 hs5 g1 g2 g3 g4 g5 g6 g7 g8 hrd hHeld ex ey eb
                    have hbl2 : Below w.heap.size w w2 := ((hbl.alloc hbl.size _).drew).grown hg2 (by have := hbl.size; simp; omega) (fun g hg => by have := hown.lt g hg; omega)
                    have hcs : ([.int .u8 ((p : Int) * 16 + (q : Int))] : List Value) = Lib.byteCells [UInt8.ofNat (p * 16 + q)] := by
                      simp [Lib.byteCells]; omega
                    have hown3 := own_next (o' := o ++ [UInt8.ofNat (p * 16 + q)]) (news := [UInt8.ofNat (p * 16 + q)]) hown2 hcs rfl rfl
                    have HNX := Lib.hid (rdec_next hrd0.out hl2.out HR.out rfl)
                    clear hcs hown2 hg2 hat2 hown hrd0 HR hl2 hbl
                    go_wp2_with fail
                    exact ⟨⟨k + 3, _, by omega, by go_num, by simp; omega, hown3, HNX, hbl2⟩, by simp [intOf]; omega⟩
            · have HR : Hid (rone form (l.drop k) = none) := by
                show _ = _
                rw [hdr.out, rone_cons, hb.out, hp, if_neg (by simp), if_neg (by simpa using h43), if_pos h37, rtwo_short (by rw [List.length_drop]; omega)]
              have hv := Lib.hid (rdec_stop hrd0.out (by omega) HR.out)
              have h37i : ((b : Int) == 37) = true := by rw [beq_iff_eq]; omega
              clear h43 hp hdr hrd0 HR h37
              rcases hcase with rfl | ⟨rfl, hq⟩
              all_goals
                go_wp2_with fail
                refine (cp.out _).mono ?_
                rintro _ w1 ⟨rfl, rfl⟩
                go_wp2_with fail
                go_ret2
                exact ⟨by rw [hv.out]; rfl, hbl⟩
          · have HR : Hid (rone form (l.drop k) = none) := by
              show _ = _
              rw [hdr.out, rone_cons, hb.out, hp, if_neg (by simp), if_neg (by simpa using h43), if_neg h37]
            have hv := Lib.hid (rdec_stop hrd0.out (by omega) HR.out)
            have h37i : ((b : Int) == 37) = false := by rw [beq_eq_false_iff_ne]; omega
            clear h43 hp hdr hrd0 HR h37
            rcases hcase with rfl | ⟨rfl, hq⟩
            all_goals
              go_wp2_with fail
              refine (cp.out _).mono ?_
              rintro _ w1 ⟨rfl, rfl⟩
              go_wp2_with fail
              go_ret2
              exact ⟨by rw [hv.out]; rfl, hbl⟩
      · rw [hp] at cp
        have HR : Hid (rone form (l.drop k) = some (l.getD k 0, 1)) := by
          show _ = _
          rw [hdr.out, rone_cons, hb.out, hp]
          rfl
        have hrd := reads_row wr 5 [.int .u8 (b : Int)]
        have hl2 := Lib.hid (show k < l.length by omega)
        clear hp hdr
        go_wp2_with fail
        refine (cp.out _).mono ?_
        rintro _ w1 ⟨rfl, rfl⟩
        go_wp2_with (at_builtin; refine wpList_append_any (wr.alloc (.cells #[.int .u8 (b : Int)] 5)) rfl (.tmp 21) (.tmp 23) 81 rfl w.heap.size 5 i0 (.int .u8 0) 1 1 Tryz.underlying81 hi hz0 hz1 hz2 rfl (by decide) u6 o.length (Lib.byteCells o) rfl (hown.alloc _) (wr.heap.size + 1) _ 1 1 [.int .u8 (b : Int)] rfl hrd (by simp [Value.oneCell']) (by unfold maxLen; omega) (by omega) (by have := hbl.size; simp; omega) ?_; intro v' w2 hown2 hg2 hat2)
        have hbl2 : Below w.heap.size w w2 := (hbl.alloc hbl.size _).grown hg2 (by have := hbl.size; simp; omega) (fun g hg => by have := hown.lt g hg; omega)
        have hown3 := own_next (o' := o ++ [l.getD k 0]) (news := [l.getD k 0]) hown2 (cells_one hb.out) rfl rfl
        exact ⟨⟨k + 1, o ++ [l.getD k 0], by omega, by go_num, by simp; omega, hown3, rdec_next hrd0.out hl2.out HR.out rfl, hbl2⟩, by simp [intOf]; omega⟩
    · obtain rfl : k = s.size := by omega
      obtain ⟨A, c, rfl, hnc, hrd⟩ := own_reads hown (Nat.le_refl _)
      have hst := reads_str (P := Tryz.prog) (c := c) hrd 81 9 5 Tryz.underlying81 Tryz.underlying5 Tryz.underlying9
      have ce := Lib.hid (fun w => renc_walk ⟨o.toArray⟩ o (by simp) form w (by show o.toArray.size ≤ _; rw [List.size_toArray]; omega))
      have hrl : rdecL form l = some o := by
        rw [hrd0.out, ← hsz, List.drop_length, rdecL_nil]
        simp
      have hdl := decL_ref form l
      rw [hrl] at hdl
      simp only at hdl
      obtain ⟨z, hz⟩ : ∃ z, ByteArray.mk (encL form o).toArray = z := ⟨_, rfl⟩
      rw [hz] at ce
      by_cases he : encL form o = l
      · rw [if_pos he] at hdl
        have hzs : z = s := by rw [← hz, he]; exact str_eq (by rw [hs])
        subst hzs
        have HV := Lib.hid hdl
        clear hdl he hz hrl hrd0
        go_wp2_with fail
        refine (ce.out _).mono ?_
        rintro _ w1 ⟨rfl, hb1⟩
        have hst2 := reads_str (P := Tryz.prog) (c := c) (hrd.below hb1) 81 9 5 Tryz.underlying81 Tryz.underlying5 Tryz.underlying9
        go_wp2_with fail
        go_ret2
        exact ⟨by rw [HV.out]; rfl, hbl.trans (hb1.mono hbl.size)⟩
      · rw [if_neg he] at hdl
        have hzt : (z.toList == s.toList) = false := by
          rw [beq_eq_false_iff_ne, Lib.toList_data, Lib.toList_data, hs, ← hz]
          simpa using he
        have HV := Lib.hid hdl
        clear hdl he hz hrl hrd hrd0
        go_wp2_with fail
        refine (ce.out _).mono ?_
        rintro _ w1 ⟨rfl, hb1⟩
        go_wp2_with fail
        go_ret2
        exact ⟨by rw [HV.out]; rfl, hbl.trans (hb1.mono hbl.size)⟩
end Go.Proofs.YtolfcpbcccbmmaaGreatDoor

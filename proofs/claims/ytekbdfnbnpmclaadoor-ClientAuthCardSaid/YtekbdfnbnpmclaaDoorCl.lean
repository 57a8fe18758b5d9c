/- ClientAuth: of any clients who it is that shows an ID and a secret; the first of an ID. Condition: the table of digits is laid. -/
import Derived.Test.YtekbdfnbnpmclaaDoorCi
import Derived.Test.YtekbdfnbnpmclaaDoorCh
set_option linter.unusedVariables false
set_option linter.unusedSimpArgs false
set_option maxRecDepth 20000
namespace Go.Proofs.YtekbdfnbnpmclaaDoor
open Go.RowKit Pc
theorem own_built (w : World) (t : TypeId) (us : List Value) (h : us.length ≤ maxLen) : (w.alloc (.cells us.toArray t)).ownsRow w.heap.size t 1 (.slice (some ⟨w.heap.size, 0, none⟩) us.length us.length) us.length us :=
  ⟨by omega, .inr ⟨w.heap.size, us.length, us.toArray, rfl, Nat.le_refl _, Blk.new w t us.toArray, Nat.le_refl _, h, by simp, by simp⟩⟩
theorem findV_form (q : List UInt8) (cs : List Cl) : ∃ (z : Int) (b : Bool), findV q cs = .tuple #[.int .i64 z, .bool b] := by
  unfold findV
  split
  · exact ⟨_, _, rfl⟩
  · exact ⟨_, _, rfl⟩
theorem str_next1 {w : World} {B : Nat} {T : TypeId} {v : Value} {l : List (List UInt8)} {f : List UInt8} (h : w.ownsRow B T 1 v (l.length + 1) (strVs l ++ [.string ⟨f.toArray⟩])) : w.ownsRow B T 1 v (l ++ [f]).length (strVs (l ++ [f])) := str_next h rfl rfl
set_option maxHeartbeats 8000000 in
theorem clientAuth_law (raw : List Cl) (A0 : Option Addr) (c0 : Nat) (zs : List Int) (A1 : Option Addr) (c1 : Nat) (id sec : ByteArray) (w : World) (h0 : ClsAt w A0 c0 raw) (h1 : IntsIn w A1 c1 zs) (hd : DigOk w) :
    Calls Tryd.prog 3 #[.slice A0 raw.length c0, .slice A1 zs.length c1, .string id, .string sec] w fun e w' => e = .returned (.bool true) ∧ Below w.heap.size w w' := by
  obtain ⟨i0, hi, hz0, hz1, hz2⟩ := infoS4 info_cl
  obtain ⟨i1, hj, hy0, hy1, hy2⟩ := infoS4 info_str
  have HD := Lib.hid hd
  have HC := Lib.hid h0
  have HI := Lib.hid h1
  obtain ⟨idl, rfl⟩ := str_of id
  obtain ⟨sel, rfl⟩ := str_of sec
  clear hd h0 h1
  go_enter Tryd.func3, Tryd.ntmps3
  go_wp2_with fail
  refine (known17_walk w HD.out).mono ?_
  rintro _ w1 ⟨rfl, hb1⟩
  have HB1 := Lib.hid hb1
  clear hb1
  go_wp2_with fail
  refine (few_walk raw A0 c0 w1 (HC.out.below HB1.out)).mono ?_
  rintro _ w2 ⟨b, rfl, hsh, hbn⟩
  have HB2 := Lib.hid (below_next HB1.out hbn)
  have HSH := Lib.hid hsh
  clear hbn HB1 hsh
  have hs1 := size_mks idl
  have hs2 := size_mks sel
  cases b
  case false =>
    go_wp2_with fail
    go_ret
    exact ⟨rfl, HB2.out⟩
  by_cases hx : idl.length ≤ 300
  case neg =>
    have hxd : decide ((300 : Int) < (idl.length : Int)) = true := by simp; omega
    go_wp2_with fail
    go_ret
    exact ⟨rfl, HB2.out⟩
  have hxd : decide ((300 : Int) < (idl.length : Int)) = false := by simp; omega
  by_cases hy : sel.length ≤ 300
  case neg =>
    have hyd : decide ((300 : Int) < (sel.length : Int)) = true := by simp; omega
    go_wp2_with fail
    go_ret
    exact ⟨rfl, HB2.out⟩
  have hyd : decide ((300 : Int) < (sel.length : Int)) = false := by simp; omega
  obtain ⟨hraw, _⟩ := HSH.out rfl
  clear HSH
  go_wp2_with fail
  refine (clients_walk zs A1 c1 5 (by omega) w2 (HI.out.below HB2.out)).mono ?_
  rintro _ w3 ⟨cs1, A3, c3, rfl, hl3, hoff3, hA3, hO3, hR3, hbn⟩
  have HB3 := Lib.hid (below_next HB2.out hbn)
  have hR3' := Lib.hid hR3
  have HO3 := Lib.hid hO3
  have hrd := (HC.out.below HB3.out).2.1
  have h23 := HB2.out.size
  have hb23 := hbn.size
  clear hbn hA3 hO3 hR3 hxd hyd
  go_wp2_with (at_builtin; go_loud (refine wpList_append_any w3 rfl (.tmp 39) (.tmp 40) 22 rfl w2.heap.size 30 i0 (.agg clZ.arr) 4 64 Tryd.underlying22 hi hz0 hz1 hz2 rfl (by decide) (.slice A3 cs1.length c3) cs1.length (cCells cs1) rfl HO3.out w3.heap.size A0 raw.length c0 (cCells raw) rfl hrd (cCells_ones raw) (by unfold maxLen; omega) (by omega) (by omega) ?_); intro v' w4 hown4 hg4 hat4)
  have hown5 : w4.ownsRow w2.heap.size 30 4 v' (cs1 ++ raw).length (cCells (cs1 ++ raw)) := by rw [cCells_append, List.length_append]; exact hown4
  obtain ⟨A4, c4, rfl, _, _⟩ := own_reads hown5 (Nat.le_refl _)
  have hOlt := HO3.out.lt
  have HB4 := Lib.hid (HB3.out.grown hg4 HB3.out.size (fun r e => by have := hOlt r e; omega))
  have hcl : ClsAt w4 A4 c4 (cs1 ++ raw) := by
    obtain ⟨A', c', e, h⟩ := ClsAt.own hown5 (fun f hf => by
      rcases List.mem_append.1 hf with h | h
      · exact strsAt_of ((hR3'.out f h).kept hg4 (own_own (hR3'.out f h) HO3.out (by decide)))
      · exact (HC.out.below HB4.out).2.2 f h)
    injection e with e1 _ e2
    subst e1 e2
    exact h
  have hLl : (cs1 ++ raw).length ≤ 5005 := by rw [List.length_append]; omega
  have HL4 := Lib.hid hcl
  clear hown4 hown5 hg4 hat4 hOlt hcl hR3' HO3 HB3 hrd HC HI
  generalize cs1 ++ raw = L at HL4 hLl ⊢
  obtain ⟨IL0, hIL0⟩ : ∃ l : List (List UInt8), l = [idl, [99, 49], [112]] := ⟨_, rfl⟩
  have hIl : IL0.length = 3 := by rw [hIL0]; rfl
  have ho5 : (w4.alloc (.cells #[.string ⟨idl.toArray⟩, .string ⟨#[99, 49]⟩, .string ⟨#[112]⟩] 9)).ownsRow w4.heap.size 9 1 (.slice (some ⟨w4.heap.size, 0, none⟩) IL0.length IL0.length) IL0.length (strVs IL0) := by
    have := own_built w4 9 (strVs IL0) (by rw [hIL0]; show 3 ≤ maxLen; unfold maxLen; omega)
    rw [show (strVs IL0).length = IL0.length by simp [strVs]] at this
    rw [hIL0] at this ⊢
    exact this
  have hb5 := (Below.refl w4.heap.size w4).alloc (Nat.le_refl _) (.cells #[.string ⟨idl.toArray⟩, .string ⟨#[99, 49]⟩, .string ⟨#[112]⟩] 9)
  have HO5 := Lib.hid ho5
  have HB5 := Lib.hid hb5
  clear ho5 hb5 hIL0
  generalize w4.alloc (.cells #[.string ⟨idl.toArray⟩, .string ⟨#[99, 49]⟩, .string ⟨#[112]⟩] 9) = w5 at HO5 HB5 ⊢
  refine (K9.key_walk 4 w5).mono ?_
  rintro _ w6 ⟨rfl, hbn⟩
  have HB6 := Lib.hid (HB5.out.trans (hbn.mono HB5.out.size))
  have HO6 := Lib.hid (ownsRow_below HO5.out hbn)
  clear hbn HB5 HO5
  go_wp2_with fail
  refine (K9.key_walk 300 w6).mono ?_
  rintro _ w7 ⟨rfl, hbn⟩
  have HB7 := Lib.hid (HB6.out.trans (hbn.mono HB6.out.size))
  have HO7 := Lib.hid (ownsRow_below HO6.out hbn)
  clear hbn HB6 HO6
  go_upto_region 8 with fail
  obtain ⟨SL, hSL⟩ : ∃ l : List (List UInt8), l = [sel, [], K9.keyL 4, K9.keyL 300] := ⟨_, rfl⟩
  have hSl : SL.length = 4 := by rw [hSL]; rfl
  have hk8 : Blk (w7.alloc (.cells #[.string ⟨sel.toArray⟩, .string ⟨#[]⟩, .string ⟨(K9.keyL 4).toArray⟩, .string ⟨(K9.keyL 300).toArray⟩] 9)) w7.heap.size 9 (strVs SL).toArray := by rw [hSL]; exact Blk.new w7 9 _
  have hb8 := HB7.out.alloc HB7.out.size (.cells #[.string ⟨sel.toArray⟩, .string ⟨#[]⟩, .string ⟨(K9.keyL 4).toArray⟩, .string ⟨(K9.keyL 300).toArray⟩] 9)
  have ho8 := HO7.out.alloc (.cells #[.string ⟨sel.toArray⟩, .string ⟨#[]⟩, .string ⟨(K9.keyL 4).toArray⟩, .string ⟨(K9.keyL 300).toArray⟩] 9)
  have hne8 : ∀ r, (Value.slice (some ⟨w4.heap.size, 0, none⟩) IL0.length IL0.length).ownBlock = some r → r ≠ w7.heap.size := fun r e => by have := (HO7.out.lt r e).2; omega
  have hs78 : w4.heap.size ≤ w7.heap.size := HB7.out.size
  have HK8 := Lib.hid hk8
  have HB8 := Lib.hid hb8
  have HO8 := Lib.hid ho8
  have HN8 := Lib.hid hne8
  clear hk8 hb8 ho8 hne8 hSL HB7 HO7
  generalize w7.alloc (.cells #[.string ⟨sel.toArray⟩, .string ⟨#[]⟩, .string ⟨(K9.keyL 4).toArray⟩, .string ⟨(K9.keyL 300).toArray⟩] 9) = w8 at HK8 HB8 HO8 ⊢
  generalize w7.heap.size = g11 at HK8 HN8 hs78 ⊢
  go_wp2_with fail
  go_loopw [10, 12] (fun sv iv wr => ∃ (i : Nat) (IL : List (List UInt8)) (A10 : Option Addr) (c10 : Nat), i ≤ 10 ∧ iv = .int .i64 i ∧ sv = .slice A10 IL.length c10 ∧ 3 ≤ IL.length ∧ IL.length ≤ 3 + i ∧ Hid (Below w4.heap.size w4 wr) ∧ Hid (wr.ownsRow w4.heap.size 9 1 (.slice A10 IL.length c10) IL.length (strVs IL)) ∧ Hid (Blk wr g11 9 (strVs SL).toArray) ∧ Hid (∀ r, (Value.slice A10 IL.length c10).ownBlock = some r → r ≠ g11)) (fun _ iv _ => 10 - (intOf iv).toNat)
  case atStart => exact ⟨0, IL0, some ⟨w4.heap.size, 0, none⟩, IL0.length, by omega, rfl, by rw [hIl], by omega, by omega, HB8, HO8, HK8, HN8⟩
  case round =>
    clear HB8 HO8 HK8 HN8
    obtain ⟨i, IL, A10, c10, hi10, rfl, rfl, hI3, hIi, HB, HO, HK, HN⟩ := hrel
    by_cases hcond : i < L.length ∧ i < 10
    · obtain ⟨hlt, hlt10⟩ := hcond
      have hR := HL4.out.below HB.out
      obtain ⟨ad, rfl⟩ : ∃ ad, A4 = some ad := by obtain ⟨ad, h, _⟩ := hR.2.1.2 (by omega); exact ⟨ad, h⟩
      obtain ⟨r, hrk⟩ : ∃ r, L[i]? = some r := ⟨_, List.getElem?_eq_getElem hlt⟩
      have hid := cl_id hR.2.1 hrk
      have hd1 : decide ((i : Int) < (L.length : Int)) = true := by simp; omega
      have hsw := HB.out.size
      have hgw : w4.heap.size ≤ wr.heap.size := by omega
      clear hR hrk
      go_wp2_with (at_builtin; go_loud (refine wpList_append_any (wr.alloc (.cells #[.string ⟨r.id.toArray⟩] 9)) rfl (.tmp 58) (.tmp 64) 27 rfl w4.heap.size 9 i1 (.string ⟨#[]⟩) 1 16 Tryd.underlying27 hj hy0 hy1 hy2 rfl (by decide) (.slice A10 IL.length c10) IL.length (strVs IL) rfl (HO.out.alloc _) (wr.heap.size + 1) _ 1 1 [.string ⟨r.id.toArray⟩] rfl (reads_row wr 9 [.string ⟨r.id.toArray⟩]) (by simp [Value.oneCell']) (by unfold maxLen; omega) (by omega) (by simp; omega) ?_); intro v' w9 hown9 hg9 hat9)
      have hown10 := str_next1 hown9
      obtain ⟨A7, c7, rfl, _, _⟩ := own_reads hown10 (Nat.le_refl _)
      have hOlt := HO.out.lt
      have HB9 := Lib.hid ((HB.out.alloc HB.out.size (.cells #[.string ⟨r.id.toArray⟩] 9)).grown hg9 (by simp; omega) (fun q e => by have := hOlt q e; omega))
      have HK9 := Lib.hid ((HK.out.alloc (.cells #[.string ⟨r.id.toArray⟩] 9)).grown hg9 (fun e => HN.out _ e.symm rfl))
      have hkl := HK.out.lt
      have HN9 : Hid (∀ q, (Value.slice A7 (IL ++ [r.id]).length c7).ownBlock = some q → q ≠ g11) := by
        show ∀ q, _ → _
        intro q e
        rcases hat9 with h | h
        · exact HN.out q (h.symm.trans e)
        · rw [h] at e
          injection e with e
          have h9 : (wr.alloc (.cells #[.string ⟨r.id.toArray⟩] 9)).heap.size = wr.heap.size + 1 := by simp
          omega
      have HO9 := Lib.hid hown10
      have hl9 : (IL ++ [r.id]).length = IL.length + 1 := by rw [List.length_append, List.length_singleton]
      clear hown9 hown10 hg9 hat9 hOlt HB HO HK HN
      exact ⟨⟨i + 1, IL ++ [r.id], A7, c7, by omega, by go_num, by rw [hl9], by omega, by omega, HB9, HO9, HK9, HN9⟩, by simp [intOf]; omega⟩
    · have hcase : ¬ i < L.length ∨ i < L.length ∧ ¬ i < 10 := by omega
      obtain ⟨A11, c11, e11, hN9⟩ := StrsAt.own HO.out
      injection e11 with eA _ ec
      subst eA ec
      have HN9 := Lib.hid hN9
      have HL9 := Lib.hid (HL4.out.below HB.out)
      have HB9 : Hid (Below w.heap.size w wr) := HB4.out.trans (HB.out.mono HB4.out.size)
      have hI13 : IL.length ≤ 13 := by omega
      clear HB HO HN hN9 hcond hi10 hIi
      have HK9 := Lib.hid HK.out
      clear HK
      rcases hcase with h1 | ⟨h1, h2⟩
      · have hd1 : decide ((i : Int) < (L.length : Int)) = false := by simp; omega
        have hd1b : decide (i < L.length) = false := by simp; omega
        go_wp2_with fail
        clear hd1 hd1b h1
        (try clear hd2 hd2b h2)
        go_loopw [13] (fun iv wq => ∃ i : Nat, i ≤ IL.length ∧ iv = .int .i64 i ∧ Hid (Below w.heap.size w wq) ∧ Hid (ClsAt wq A4 c4 L) ∧ Hid (StrsAt wq A10 c10 IL) ∧ Hid (Blk wq g11 9 (strVs SL).toArray)) (fun iv _ => IL.length - (intOf iv).toNat)
        case atStart => exact ⟨0, by omega, rfl, HB9, HL9, HN9, HK9⟩
        case round =>
          clear HB9 HL9 HN9 HK9
          obtain ⟨i, hi2, rfl, HB, HL, HN, HS⟩ := hrel
          by_cases hlt : i < IL.length
          case neg =>
            obtain rfl : i = IL.length := by omega
            go_wp2_with fail
            go_ret
            exact ⟨rfl, HB.out⟩
          obtain ⟨q, hqk⟩ : ∃ q, IL[i]? = some q := ⟨_, List.getElem?_eq_getElem hlt⟩
          have HQ := Lib.hid hqk
          obtain ⟨ai, rfl, hci⟩ := HN.out.get hqk
          obtain ⟨z, b, ez⟩ := findV_form q L
          have cf := Lib.hid (fun W h => find_walk q L A4 c4 W h (by omega))
          have rf := Lib.hid (fun W h => rfind_walk q L A4 c4 W h (by omega))
          rw [ez] at cf rf
          clear hqk ez
          cases b
          all_goals
            go_wp2_with fail
            refine (cf.out wr HL.out).mono ?_
            rintro _ w5 ⟨rfl, hbn⟩
            replace HB := Lib.hid (below_next HB.out hbn)
            replace HL := Lib.hid (HL.out.below hbn)
            replace HN := Lib.hid (HN.out.below hbn)
            replace HS := Lib.hid (HS.out.below hbn HS.out.lt)
            clear hci hbn
            obtain ⟨ai2, ei2, hci⟩ := HN.out.get HQ.out
            injection ei2 with ei2
            subst ei2
            go_wp2_with fail
            refine (rf.out w5 HL.out).mono ?_
            rintro _ w6 ⟨rfl, rfl⟩
            clear hci cf rf
            go_wp2_with fail
            go_loopw [18] (fun kv wq => ∃ k : Nat, k ≤ 4 ∧ kv = .int .i64 k ∧ Hid (Below w.heap.size w wq) ∧ Hid (ClsAt wq A4 c4 L) ∧ Hid (StrsAt wq (some ai) c10 IL) ∧ Hid (Blk wq g11 9 (strVs SL).toArray)) (fun kv _ => 4 - (intOf kv).toNat)
            case atStart => exact ⟨0, by omega, rfl, HB, HL, HN, HS⟩
            case round =>
              clear HB HL HN HS
              obtain ⟨k, hk, rfl, HB, HL, HN, HS⟩ := hrel
              by_cases hk4 : k < 4
              case neg =>
                obtain rfl : k = 4 := by omega
                go_wp2_with fail
                exact ⟨⟨i + 1, by omega, by go_num, HB, HL, HN, HS⟩, by simp [intOf]; omega⟩
              obtain ⟨s, hsk⟩ : ∃ s, SL[k]? = some s := ⟨_, List.getElem?_eq_getElem (by omega)⟩
              have HSk := Lib.hid hsk
              clear hsk
              obtain ⟨ai2, ei2, hci⟩ := HN.out.get HQ.out
              injection ei2 with ei2
              subst ei2
              have hcs : wr.cell? ⟨g11, k, none⟩ = some (.string ⟨s.toArray⟩) := by rw [HS.out.cell k]; simp [strVs, strV, HSk.out]
              have ca := Lib.hid (fun W h => auth_walk L q s A4 c4 W h (by omega))
              have cr := Lib.hid (fun W h => rauth_walk L q s A4 c4 W h (by omega))
              unfold authV at ca cr
              generalize authE L q s = ae at ca cr
              obtain ⟨m1, m2⟩ := ae
              simp only at ca cr
              go_wp2_with fail
              refine wp_region_held_drew (S := fun W => W.cell? (ai.add i) = some (.string ⟨q.toArray⟩) ∧ W.cell? ⟨g11, k, none⟩ = some (.string ⟨s.toArray⟩)) (by kernel_rfl) ⟨hci, hcs⟩ (fun hHeld => ?_)
              first | (refine wpAnyH_take (i := 0) (v := _) rfl (by kernel_rfl) (by kernel_rfl) (by kernel_rfl) (fun _ _ _ h => h) (Or.inr ⟨?_, rfl⟩) (by assumption) ?_; rfl) | (refine wpAnyH_take (i := 0) (v := ?_) rfl (by kernel_rfl) (by kernel_rfl) (by kernel_rfl) (fun _ _ _ h => h) (Or.inl ⟨?_, ?_⟩) (by assumption) ?_; rotate_left; rfl; focus (intro w hSw; (try dsimp only at hSw); go_simp; all_goals (with_reducible rfl)))
              (try simp only [List.getElem_toArray, List.getElem_cons_zero, List.getElem_cons_succ, Act.put, List.setIfInBounds_toArray, List.set_cons_zero, List.set_cons_succ])
              first | (refine wpAnyH_take (i := 1) (v := _) rfl (by kernel_rfl) (by kernel_rfl) (by kernel_rfl) (fun _ _ _ h => h) (Or.inr ⟨?_, rfl⟩) (by assumption) ?_; rfl) | (refine wpAnyH_take (i := 1) (v := ?_) rfl (by kernel_rfl) (by kernel_rfl) (by kernel_rfl) (fun _ _ _ h => h) (Or.inl ⟨?_, ?_⟩) (by assumption) ?_; rotate_left; rfl; focus (intro w hSw; (try dsimp only at hSw); go_simp; all_goals (with_reducible rfl)))
              (try simp only [List.getElem_toArray, List.getElem_cons_zero, List.getElem_cons_succ, Act.put, List.setIfInBounds_toArray, List.set_cons_zero, List.set_cons_succ])
              first | (refine wpAnyH_take (i := 2) (v := _) rfl (by kernel_rfl) (by kernel_rfl) (by kernel_rfl) (fun _ _ _ h => h) (Or.inr ⟨?_, rfl⟩) (by assumption) ?_; rfl) | (refine wpAnyH_take (i := 2) (v := ?_) rfl (by kernel_rfl) (by kernel_rfl) (by kernel_rfl) (fun _ _ _ h => h) (Or.inl ⟨?_, ?_⟩) (by assumption) ?_; rotate_left; rfl; focus (intro w hSw; (try dsimp only at hSw); go_simp; all_goals (with_reducible rfl)))
              (try simp only [List.getElem_toArray, List.getElem_cons_zero, List.getElem_cons_succ, Act.put, List.setIfInBounds_toArray, List.set_cons_zero, List.set_cons_succ])
              first | (refine wpAnyH_take (i := 3) (v := _) rfl (by kernel_rfl) (by kernel_rfl) (by kernel_rfl) (fun _ _ _ h => h) (Or.inr ⟨?_, rfl⟩) (by assumption) ?_; rfl) | (refine wpAnyH_take (i := 3) (v := ?_) rfl (by kernel_rfl) (by kernel_rfl) (by kernel_rfl) (fun _ _ _ h => h) (Or.inl ⟨?_, ?_⟩) (by assumption) ?_; rotate_left; rfl; focus (intro w hSw; (try dsimp only at hSw); go_simp; all_goals (with_reducible rfl)))
              (try simp only [List.getElem_toArray, List.getElem_cons_zero, List.getElem_cons_succ, Act.put, List.setIfInBounds_toArray, List.set_cons_zero, List.set_cons_succ])
              first | (refine wpAnyH_take (i := 4) (v := _) rfl (by kernel_rfl) (by kernel_rfl) (by kernel_rfl) (fun _ _ _ h => h) (Or.inr ⟨?_, rfl⟩) (by assumption) ?_; rfl) | (refine wpAnyH_take (i := 4) (v := ?_) rfl (by kernel_rfl) (by kernel_rfl) (by kernel_rfl) (fun _ _ _ h => h) (Or.inl ⟨?_, ?_⟩) (by assumption) ?_; rotate_left; rfl; focus (intro w hSw; (try dsimp only at hSw); go_simp; all_goals (with_reducible rfl)))
              (try simp only [List.getElem_toArray, List.getElem_cons_zero, List.getElem_cons_succ, Act.put, List.setIfInBounds_toArray, List.set_cons_zero, List.set_cons_succ])
              first | (refine wpAnyH_take (i := 5) (v := _) rfl (by kernel_rfl) (by kernel_rfl) (by kernel_rfl) (fun _ _ _ h => h) (Or.inr ⟨?_, rfl⟩) (by assumption) ?_; rfl) | (refine wpAnyH_take (i := 5) (v := ?_) rfl (by kernel_rfl) (by kernel_rfl) (by kernel_rfl) (fun _ _ _ h => h) (Or.inl ⟨?_, ?_⟩) (by assumption) ?_; rotate_left; rfl; focus (intro w hSw; (try dsimp only at hSw); go_simp; all_goals (with_reducible rfl)))
              (try simp only [List.getElem_toArray, List.getElem_cons_zero, List.getElem_cons_succ, Act.put, List.setIfInBounds_toArray, List.set_cons_zero, List.set_cons_succ])
              first | (refine wpAnyH_take (i := 6) (v := _) rfl (by kernel_rfl) (by kernel_rfl) (by kernel_rfl) (fun _ _ _ h => h) (Or.inr ⟨?_, rfl⟩) (by assumption) ?_; rfl) | (refine wpAnyH_take (i := 6) (v := ?_) rfl (by kernel_rfl) (by kernel_rfl) (by kernel_rfl) (fun _ _ _ h => h) (Or.inl ⟨?_, ?_⟩) (by assumption) ?_; rotate_left; rfl; focus (intro w hSw; (try dsimp only at hSw); go_simp; all_goals (with_reducible rfl)))
              (try simp only [List.getElem_toArray, List.getElem_cons_zero, List.getElem_cons_succ, Act.put, List.setIfInBounds_toArray, List.set_cons_zero, List.set_cons_succ])
              first | (refine wpAnyH_take (i := 7) (v := _) rfl (by kernel_rfl) (by kernel_rfl) (by kernel_rfl) (fun _ _ _ h => h) (Or.inr ⟨?_, rfl⟩) (by assumption) ?_; rfl) | (refine wpAnyH_take (i := 7) (v := ?_) rfl (by kernel_rfl) (by kernel_rfl) (by kernel_rfl) (fun _ _ _ h => h) (Or.inl ⟨?_, ?_⟩) (by assumption) ?_; rotate_left; rfl; focus (intro w hSw; (try dsimp only at hSw); go_simp; all_goals (with_reducible rfl)))
              (try simp only [List.getElem_toArray, List.getElem_cons_zero, List.getElem_cons_succ, Act.put, List.setIfInBounds_toArray, List.set_cons_zero, List.set_cons_succ])
              first | (refine wpAnyH_take (i := 8) (v := _) rfl (by kernel_rfl) (by kernel_rfl) (by kernel_rfl) (fun _ _ _ h => h) (Or.inr ⟨?_, rfl⟩) (by assumption) ?_; rfl) | (refine wpAnyH_take (i := 8) (v := ?_) rfl (by kernel_rfl) (by kernel_rfl) (by kernel_rfl) (fun _ _ _ h => h) (Or.inl ⟨?_, ?_⟩) (by assumption) ?_; rotate_left; rfl; focus (intro w hSw; (try dsimp only at hSw); go_simp; all_goals (with_reducible rfl)))
              (try simp only [List.getElem_toArray, List.getElem_cons_zero, List.getElem_cons_succ, Act.put, List.setIfInBounds_toArray, List.set_cons_zero, List.set_cons_succ])
              refine wpAnyH_ready (rs := [9]) (by kernel_rfl) (by simp) ?_
              refine AllReadyH.cons rfl (fun K hK => ?_) AllReadyH.nil
              go_simp
              go_at_call 12
              have cq := ca.out wr.drew (show ClsAt wr.drew A4 c4 L from HL.out.drewN 1)
              with_reducible refine cq.mono ?_
              rintro _ wa ⟨rfl, hbn⟩
              replace HB := Lib.hid (below_next (w1 := wr.drew) (below_drewN HB.out 1) hbn)
              replace HL := Lib.hid (ClsAt.below (w := wr.drew) (show ClsAt wr.drew A4 c4 L from HL.out.drewN 1) hbn)
              replace HN := Lib.hid (StrsAt.below (w := wr.drew) (show StrsAt wr.drew (some ai) c10 IL from HN.out.drewN 1) hbn)
              replace HS := Lib.hid (Blk.below (w := wr.drew) HS.out.drew hbn HS.out.drew.lt)
              clear hci hcs
              obtain ⟨ai2, ei2, hci⟩ := HN.out.get HQ.out
              injection ei2 with ei2
              subst ei2
              have hcs : wa.cell? ⟨g11, k, none⟩ = some (.string ⟨s.toArray⟩) := by rw [HS.out.cell k]; simp [strVs, strV, HSk.out]
              refine hK.out _ _ ⟨hci, hcs⟩ (fun hHeld => ?_)
              clear hK K hbn cq
              (try simp only [List.getElem_toArray, List.getElem_cons_zero, List.getElem_cons_succ, Act.put, List.setIfInBounds_toArray, List.set_cons_zero, List.set_cons_succ])
              first | (refine wpAnyH_take (i := 10) (v := _) rfl (by kernel_rfl) (by kernel_rfl) (by kernel_rfl) (fun _ _ _ h => h) (Or.inr ⟨?_, rfl⟩) (by assumption) ?_; rfl) | (refine wpAnyH_take (i := 10) (v := ?_) rfl (by kernel_rfl) (by kernel_rfl) (by kernel_rfl) (fun _ _ _ h => h) (Or.inl ⟨?_, ?_⟩) (by assumption) ?_; rotate_left; rfl; focus (intro w hSw; (try dsimp only at hSw); go_simp; all_goals (with_reducible rfl)))
              (try simp only [List.getElem_toArray, List.getElem_cons_zero, List.getElem_cons_succ, Act.put, List.setIfInBounds_toArray, List.set_cons_zero, List.set_cons_succ])
              first | (refine wpAnyH_take (i := 11) (v := _) rfl (by kernel_rfl) (by kernel_rfl) (by kernel_rfl) (fun _ _ _ h => h) (Or.inr ⟨?_, rfl⟩) (by assumption) ?_; rfl) | (refine wpAnyH_take (i := 11) (v := ?_) rfl (by kernel_rfl) (by kernel_rfl) (by kernel_rfl) (fun _ _ _ h => h) (Or.inl ⟨?_, ?_⟩) (by assumption) ?_; rotate_left; rfl; focus (intro w hSw; (try dsimp only at hSw); go_simp; all_goals (with_reducible rfl)))
              (try simp only [List.getElem_toArray, List.getElem_cons_zero, List.getElem_cons_succ, Act.put, List.setIfInBounds_toArray, List.set_cons_zero, List.set_cons_succ])
              first | (refine wpAnyH_take (i := 12) (v := _) rfl (by kernel_rfl) (by kernel_rfl) (by kernel_rfl) (fun _ _ _ h => h) (Or.inr ⟨?_, rfl⟩) (by assumption) ?_; rfl) | (refine wpAnyH_take (i := 12) (v := ?_) rfl (by kernel_rfl) (by kernel_rfl) (by kernel_rfl) (fun _ _ _ h => h) (Or.inl ⟨?_, ?_⟩) (by assumption) ?_; rotate_left; rfl; focus (intro w hSw; (try dsimp only at hSw); go_simp; all_goals (with_reducible rfl)))
              (try simp only [List.getElem_toArray, List.getElem_cons_zero, List.getElem_cons_succ, Act.put, List.setIfInBounds_toArray, List.set_cons_zero, List.set_cons_succ])
              first | (refine wpAnyH_take (i := 13) (v := _) rfl (by kernel_rfl) (by kernel_rfl) (by kernel_rfl) (fun _ _ _ h => h) (Or.inr ⟨?_, rfl⟩) (by assumption) ?_; rfl) | (refine wpAnyH_take (i := 13) (v := ?_) rfl (by kernel_rfl) (by kernel_rfl) (by kernel_rfl) (fun _ _ _ h => h) (Or.inl ⟨?_, ?_⟩) (by assumption) ?_; rotate_left; rfl; focus (intro w hSw; (try dsimp only at hSw); go_simp; all_goals (with_reducible rfl)))
              (try simp only [List.getElem_toArray, List.getElem_cons_zero, List.getElem_cons_succ, Act.put, List.setIfInBounds_toArray, List.set_cons_zero, List.set_cons_succ])
              first | (refine wpAnyH_take (i := 14) (v := _) rfl (by kernel_rfl) (by kernel_rfl) (by kernel_rfl) (fun _ _ _ h => h) (Or.inr ⟨?_, rfl⟩) (by assumption) ?_; rfl) | (refine wpAnyH_take (i := 14) (v := ?_) rfl (by kernel_rfl) (by kernel_rfl) (by kernel_rfl) (fun _ _ _ h => h) (Or.inl ⟨?_, ?_⟩) (by assumption) ?_; rotate_left; rfl; focus (intro w hSw; (try dsimp only at hSw); go_simp; all_goals (with_reducible rfl)))
              (try simp only [List.getElem_toArray, List.getElem_cons_zero, List.getElem_cons_succ, Act.put, List.setIfInBounds_toArray, List.set_cons_zero, List.set_cons_succ])
              refine wpAnyH_done (by kernel_rfl) ?_ _
              clear hHeld
              go_wp2_with fail
              refine wp_region_held_drew (S := fun W => W.cell? (ai.add i) = some (.string ⟨q.toArray⟩) ∧ W.cell? ⟨g11, k, none⟩ = some (.string ⟨s.toArray⟩)) (by kernel_rfl) ⟨hci, hcs⟩ (fun hHeld => ?_)
              first | (refine wpAnyH_take (i := 0) (v := _) rfl (by kernel_rfl) (by kernel_rfl) (by kernel_rfl) (fun _ _ _ h => h) (Or.inr ⟨?_, rfl⟩) (by assumption) ?_; rfl) | (refine wpAnyH_take (i := 0) (v := ?_) rfl (by kernel_rfl) (by kernel_rfl) (by kernel_rfl) (fun _ _ _ h => h) (Or.inl ⟨?_, ?_⟩) (by assumption) ?_; rotate_left; rfl; focus (intro w hSw; (try dsimp only at hSw); go_simp; all_goals (with_reducible rfl)))
              (try simp only [List.getElem_toArray, List.getElem_cons_zero, List.getElem_cons_succ, Act.put, List.setIfInBounds_toArray, List.set_cons_zero, List.set_cons_succ])
              first | (refine wpAnyH_take (i := 1) (v := _) rfl (by kernel_rfl) (by kernel_rfl) (by kernel_rfl) (fun _ _ _ h => h) (Or.inr ⟨?_, rfl⟩) (by assumption) ?_; rfl) | (refine wpAnyH_take (i := 1) (v := ?_) rfl (by kernel_rfl) (by kernel_rfl) (by kernel_rfl) (fun _ _ _ h => h) (Or.inl ⟨?_, ?_⟩) (by assumption) ?_; rotate_left; rfl; focus (intro w hSw; (try dsimp only at hSw); go_simp; all_goals (with_reducible rfl)))
              (try simp only [List.getElem_toArray, List.getElem_cons_zero, List.getElem_cons_succ, Act.put, List.setIfInBounds_toArray, List.set_cons_zero, List.set_cons_succ])
              first | (refine wpAnyH_take (i := 2) (v := _) rfl (by kernel_rfl) (by kernel_rfl) (by kernel_rfl) (fun _ _ _ h => h) (Or.inr ⟨?_, rfl⟩) (by assumption) ?_; rfl) | (refine wpAnyH_take (i := 2) (v := ?_) rfl (by kernel_rfl) (by kernel_rfl) (by kernel_rfl) (fun _ _ _ h => h) (Or.inl ⟨?_, ?_⟩) (by assumption) ?_; rotate_left; rfl; focus (intro w hSw; (try dsimp only at hSw); go_simp; all_goals (with_reducible rfl)))
              (try simp only [List.getElem_toArray, List.getElem_cons_zero, List.getElem_cons_succ, Act.put, List.setIfInBounds_toArray, List.set_cons_zero, List.set_cons_succ])
              first | (refine wpAnyH_take (i := 3) (v := _) rfl (by kernel_rfl) (by kernel_rfl) (by kernel_rfl) (fun _ _ _ h => h) (Or.inr ⟨?_, rfl⟩) (by assumption) ?_; rfl) | (refine wpAnyH_take (i := 3) (v := ?_) rfl (by kernel_rfl) (by kernel_rfl) (by kernel_rfl) (fun _ _ _ h => h) (Or.inl ⟨?_, ?_⟩) (by assumption) ?_; rotate_left; rfl; focus (intro w hSw; (try dsimp only at hSw); go_simp; all_goals (with_reducible rfl)))
              (try simp only [List.getElem_toArray, List.getElem_cons_zero, List.getElem_cons_succ, Act.put, List.setIfInBounds_toArray, List.set_cons_zero, List.set_cons_succ])
              first | (refine wpAnyH_take (i := 4) (v := _) rfl (by kernel_rfl) (by kernel_rfl) (by kernel_rfl) (fun _ _ _ h => h) (Or.inr ⟨?_, rfl⟩) (by assumption) ?_; rfl) | (refine wpAnyH_take (i := 4) (v := ?_) rfl (by kernel_rfl) (by kernel_rfl) (by kernel_rfl) (fun _ _ _ h => h) (Or.inl ⟨?_, ?_⟩) (by assumption) ?_; rotate_left; rfl; focus (intro w hSw; (try dsimp only at hSw); go_simp; all_goals (with_reducible rfl)))
              (try simp only [List.getElem_toArray, List.getElem_cons_zero, List.getElem_cons_succ, Act.put, List.setIfInBounds_toArray, List.set_cons_zero, List.set_cons_succ])
              first | (refine wpAnyH_take (i := 5) (v := _) rfl (by kernel_rfl) (by kernel_rfl) (by kernel_rfl) (fun _ _ _ h => h) (Or.inr ⟨?_, rfl⟩) (by assumption) ?_; rfl) | (refine wpAnyH_take (i := 5) (v := ?_) rfl (by kernel_rfl) (by kernel_rfl) (by kernel_rfl) (fun _ _ _ h => h) (Or.inl ⟨?_, ?_⟩) (by assumption) ?_; rotate_left; rfl; focus (intro w hSw; (try dsimp only at hSw); go_simp; all_goals (with_reducible rfl)))
              (try simp only [List.getElem_toArray, List.getElem_cons_zero, List.getElem_cons_succ, Act.put, List.setIfInBounds_toArray, List.set_cons_zero, List.set_cons_succ])
              first | (refine wpAnyH_take (i := 6) (v := _) rfl (by kernel_rfl) (by kernel_rfl) (by kernel_rfl) (fun _ _ _ h => h) (Or.inr ⟨?_, rfl⟩) (by assumption) ?_; rfl) | (refine wpAnyH_take (i := 6) (v := ?_) rfl (by kernel_rfl) (by kernel_rfl) (by kernel_rfl) (fun _ _ _ h => h) (Or.inl ⟨?_, ?_⟩) (by assumption) ?_; rotate_left; rfl; focus (intro w hSw; (try dsimp only at hSw); go_simp; all_goals (with_reducible rfl)))
              (try simp only [List.getElem_toArray, List.getElem_cons_zero, List.getElem_cons_succ, Act.put, List.setIfInBounds_toArray, List.set_cons_zero, List.set_cons_succ])
              first | (refine wpAnyH_take (i := 7) (v := _) rfl (by kernel_rfl) (by kernel_rfl) (by kernel_rfl) (fun _ _ _ h => h) (Or.inr ⟨?_, rfl⟩) (by assumption) ?_; rfl) | (refine wpAnyH_take (i := 7) (v := ?_) rfl (by kernel_rfl) (by kernel_rfl) (by kernel_rfl) (fun _ _ _ h => h) (Or.inl ⟨?_, ?_⟩) (by assumption) ?_; rotate_left; rfl; focus (intro w hSw; (try dsimp only at hSw); go_simp; all_goals (with_reducible rfl)))
              (try simp only [List.getElem_toArray, List.getElem_cons_zero, List.getElem_cons_succ, Act.put, List.setIfInBounds_toArray, List.set_cons_zero, List.set_cons_succ])
              first | (refine wpAnyH_take (i := 8) (v := _) rfl (by kernel_rfl) (by kernel_rfl) (by kernel_rfl) (fun _ _ _ h => h) (Or.inr ⟨?_, rfl⟩) (by assumption) ?_; rfl) | (refine wpAnyH_take (i := 8) (v := ?_) rfl (by kernel_rfl) (by kernel_rfl) (by kernel_rfl) (fun _ _ _ h => h) (Or.inl ⟨?_, ?_⟩) (by assumption) ?_; rotate_left; rfl; focus (intro w hSw; (try dsimp only at hSw); go_simp; all_goals (with_reducible rfl)))
              (try simp only [List.getElem_toArray, List.getElem_cons_zero, List.getElem_cons_succ, Act.put, List.setIfInBounds_toArray, List.set_cons_zero, List.set_cons_succ])
              refine wpAnyH_ready (rs := [9]) (by kernel_rfl) (by simp) ?_
              refine AllReadyH.cons rfl (fun K hK => ?_) AllReadyH.nil
              go_simp
              go_at_call 13
              have cq := cr.out wa.drew (show ClsAt wa.drew A4 c4 L from HL.out.drewN 1)
              with_reducible refine cq.mono ?_
              rintro _ wb ⟨rfl, hbn⟩
              replace HB := Lib.hid (below_next (w1 := wa.drew) (below_drewN HB.out 1) hbn)
              replace HL := Lib.hid (ClsAt.below (w := wa.drew) (show ClsAt wa.drew A4 c4 L from HL.out.drewN 1) hbn)
              replace HN := Lib.hid (StrsAt.below (w := wa.drew) (show StrsAt wa.drew (some ai) c10 IL from HN.out.drewN 1) hbn)
              replace HS := Lib.hid (Blk.below (w := wa.drew) HS.out.drew hbn HS.out.drew.lt)
              clear hci hcs
              obtain ⟨ai2, ei2, hci⟩ := HN.out.get HQ.out
              injection ei2 with ei2
              subst ei2
              have hcs : wb.cell? ⟨g11, k, none⟩ = some (.string ⟨s.toArray⟩) := by rw [HS.out.cell k]; simp [strVs, strV, HSk.out]
              refine hK.out _ _ ⟨hci, hcs⟩ (fun hHeld => ?_)
              clear hK K hbn cq
              (try simp only [List.getElem_toArray, List.getElem_cons_zero, List.getElem_cons_succ, Act.put, List.setIfInBounds_toArray, List.set_cons_zero, List.set_cons_succ])
              first | (refine wpAnyH_take (i := 10) (v := _) rfl (by kernel_rfl) (by kernel_rfl) (by kernel_rfl) (fun _ _ _ h => h) (Or.inr ⟨?_, rfl⟩) (by assumption) ?_; rfl) | (refine wpAnyH_take (i := 10) (v := ?_) rfl (by kernel_rfl) (by kernel_rfl) (by kernel_rfl) (fun _ _ _ h => h) (Or.inl ⟨?_, ?_⟩) (by assumption) ?_; rotate_left; rfl; focus (intro w hSw; (try dsimp only at hSw); go_simp; all_goals (with_reducible rfl)))
              (try simp only [List.getElem_toArray, List.getElem_cons_zero, List.getElem_cons_succ, Act.put, List.setIfInBounds_toArray, List.set_cons_zero, List.set_cons_succ])
              first | (refine wpAnyH_take (i := 11) (v := _) rfl (by kernel_rfl) (by kernel_rfl) (by kernel_rfl) (fun _ _ _ h => h) (Or.inr ⟨?_, rfl⟩) (by assumption) ?_; rfl) | (refine wpAnyH_take (i := 11) (v := ?_) rfl (by kernel_rfl) (by kernel_rfl) (by kernel_rfl) (fun _ _ _ h => h) (Or.inl ⟨?_, ?_⟩) (by assumption) ?_; rotate_left; rfl; focus (intro w hSw; (try dsimp only at hSw); go_simp; all_goals (with_reducible rfl)))
              (try simp only [List.getElem_toArray, List.getElem_cons_zero, List.getElem_cons_succ, Act.put, List.setIfInBounds_toArray, List.set_cons_zero, List.set_cons_succ])
              first | (refine wpAnyH_take (i := 12) (v := _) rfl (by kernel_rfl) (by kernel_rfl) (by kernel_rfl) (fun _ _ _ h => h) (Or.inr ⟨?_, rfl⟩) (by assumption) ?_; rfl) | (refine wpAnyH_take (i := 12) (v := ?_) rfl (by kernel_rfl) (by kernel_rfl) (by kernel_rfl) (fun _ _ _ h => h) (Or.inl ⟨?_, ?_⟩) (by assumption) ?_; rotate_left; rfl; focus (intro w hSw; (try dsimp only at hSw); go_simp; all_goals (with_reducible rfl)))
              (try simp only [List.getElem_toArray, List.getElem_cons_zero, List.getElem_cons_succ, Act.put, List.setIfInBounds_toArray, List.set_cons_zero, List.set_cons_succ])
              first | (refine wpAnyH_take (i := 13) (v := _) rfl (by kernel_rfl) (by kernel_rfl) (by kernel_rfl) (fun _ _ _ h => h) (Or.inr ⟨?_, rfl⟩) (by assumption) ?_; rfl) | (refine wpAnyH_take (i := 13) (v := ?_) rfl (by kernel_rfl) (by kernel_rfl) (by kernel_rfl) (fun _ _ _ h => h) (Or.inl ⟨?_, ?_⟩) (by assumption) ?_; rotate_left; rfl; focus (intro w hSw; (try dsimp only at hSw); go_simp; all_goals (with_reducible rfl)))
              (try simp only [List.getElem_toArray, List.getElem_cons_zero, List.getElem_cons_succ, Act.put, List.setIfInBounds_toArray, List.set_cons_zero, List.set_cons_succ])
              first | (refine wpAnyH_take (i := 14) (v := _) rfl (by kernel_rfl) (by kernel_rfl) (by kernel_rfl) (fun _ _ _ h => h) (Or.inr ⟨?_, rfl⟩) (by assumption) ?_; rfl) | (refine wpAnyH_take (i := 14) (v := ?_) rfl (by kernel_rfl) (by kernel_rfl) (by kernel_rfl) (fun _ _ _ h => h) (Or.inl ⟨?_, ?_⟩) (by assumption) ?_; rotate_left; rfl; focus (intro w hSw; (try dsimp only at hSw); go_simp; all_goals (with_reducible rfl)))
              (try simp only [List.getElem_toArray, List.getElem_cons_zero, List.getElem_cons_succ, Act.put, List.setIfInBounds_toArray, List.set_cons_zero, List.set_cons_succ])
              refine wpAnyH_done (by kernel_rfl) ?_ _
              clear hHeld
              clear hci hcs ca cr HSk
              go_wp2_with fail
              exact ⟨⟨k + 1, by omega, by go_num, HB, HL, HN, HS⟩, by simp [intOf]; omega⟩
      · have hd1 : decide ((i : Int) < (L.length : Int)) = true := by simp; omega
        have hd2 : decide ((i : Int) < (10 : Int)) = false := by simp; omega
        have hd1b : decide (i < L.length) = true := by simp; omega
        have hd2b : decide (i < 10) = false := by simp; omega
        go_wp2_with fail
        clear hd1 hd1b h1
        (try clear hd2 hd2b h2)
        go_loopw [13] (fun iv wq => ∃ i : Nat, i ≤ IL.length ∧ iv = .int .i64 i ∧ Hid (Below w.heap.size w wq) ∧ Hid (ClsAt wq A4 c4 L) ∧ Hid (StrsAt wq A10 c10 IL) ∧ Hid (Blk wq g11 9 (strVs SL).toArray)) (fun iv _ => IL.length - (intOf iv).toNat)
        case atStart => exact ⟨0, by omega, rfl, HB9, HL9, HN9, HK9⟩
        case round =>
          clear HB9 HL9 HN9 HK9
          obtain ⟨i, hi2, rfl, HB, HL, HN, HS⟩ := hrel
          by_cases hlt : i < IL.length
          case neg =>
            obtain rfl : i = IL.length := by omega
            go_wp2_with fail
            go_ret
            exact ⟨rfl, HB.out⟩
          obtain ⟨q, hqk⟩ : ∃ q, IL[i]? = some q := ⟨_, List.getElem?_eq_getElem hlt⟩
          have HQ := Lib.hid hqk
          obtain ⟨ai, rfl, hci⟩ := HN.out.get hqk
          obtain ⟨z, b, ez⟩ := findV_form q L
          have cf := Lib.hid (fun W h => find_walk q L A4 c4 W h (by omega))
          have rf := Lib.hid (fun W h => rfind_walk q L A4 c4 W h (by omega))
          rw [ez] at cf rf
          clear hqk ez
          cases b
          all_goals
            go_wp2_with fail
            refine (cf.out wr HL.out).mono ?_
            rintro _ w5 ⟨rfl, hbn⟩
            replace HB := Lib.hid (below_next HB.out hbn)
            replace HL := Lib.hid (HL.out.below hbn)
            replace HN := Lib.hid (HN.out.below hbn)
            replace HS := Lib.hid (HS.out.below hbn HS.out.lt)
            clear hci hbn
            obtain ⟨ai2, ei2, hci⟩ := HN.out.get HQ.out
            injection ei2 with ei2
            subst ei2
            go_wp2_with fail
            refine (rf.out w5 HL.out).mono ?_
            rintro _ w6 ⟨rfl, rfl⟩
            clear hci cf rf
            go_wp2_with fail
            go_loopw [18] (fun kv wq => ∃ k : Nat, k ≤ 4 ∧ kv = .int .i64 k ∧ Hid (Below w.heap.size w wq) ∧ Hid (ClsAt wq A4 c4 L) ∧ Hid (StrsAt wq (some ai) c10 IL) ∧ Hid (Blk wq g11 9 (strVs SL).toArray)) (fun kv _ => 4 - (intOf kv).toNat)
            case atStart => exact ⟨0, by omega, rfl, HB, HL, HN, HS⟩
            case round =>
              clear HB HL HN HS
              obtain ⟨k, hk, rfl, HB, HL, HN, HS⟩ := hrel
              by_cases hk4 : k < 4
              case neg =>
                obtain rfl : k = 4 := by omega
                go_wp2_with fail
                exact ⟨⟨i + 1, by omega, by go_num, HB, HL, HN, HS⟩, by simp [intOf]; omega⟩
              obtain ⟨s, hsk⟩ : ∃ s, SL[k]? = some s := ⟨_, List.getElem?_eq_getElem (by omega)⟩
              have HSk := Lib.hid hsk
              clear hsk
              obtain ⟨ai2, ei2, hci⟩ := HN.out.get HQ.out
              injection ei2 with ei2
              subst ei2
              have hcs : wr.cell? ⟨g11, k, none⟩ = some (.string ⟨s.toArray⟩) := by rw [HS.out.cell k]; simp [strVs, strV, HSk.out]
              have ca := Lib.hid (fun W h => auth_walk L q s A4 c4 W h (by omega))
              have cr := Lib.hid (fun W h => rauth_walk L q s A4 c4 W h (by omega))
              unfold authV at ca cr
              generalize authE L q s = ae at ca cr
              obtain ⟨m1, m2⟩ := ae
              simp only at ca cr
              go_wp2_with fail
              refine wp_region_held_drew (S := fun W => W.cell? (ai.add i) = some (.string ⟨q.toArray⟩) ∧ W.cell? ⟨g11, k, none⟩ = some (.string ⟨s.toArray⟩)) (by kernel_rfl) ⟨hci, hcs⟩ (fun hHeld => ?_)
              first | (refine wpAnyH_take (i := 0) (v := _) rfl (by kernel_rfl) (by kernel_rfl) (by kernel_rfl) (fun _ _ _ h => h) (Or.inr ⟨?_, rfl⟩) (by assumption) ?_; rfl) | (refine wpAnyH_take (i := 0) (v := ?_) rfl (by kernel_rfl) (by kernel_rfl) (by kernel_rfl) (fun _ _ _ h => h) (Or.inl ⟨?_, ?_⟩) (by assumption) ?_; rotate_left; rfl; focus (intro w hSw; (try dsimp only at hSw); go_simp; all_goals (with_reducible rfl)))
              (try simp only [List.getElem_toArray, List.getElem_cons_zero, List.getElem_cons_succ, Act.put, List.setIfInBounds_toArray, List.set_cons_zero, List.set_cons_succ])
              first | (refine wpAnyH_take (i := 1) (v := _) rfl (by kernel_rfl) (by kernel_rfl) (by kernel_rfl) (fun _ _ _ h => h) (Or.inr ⟨?_, rfl⟩) (by assumption) ?_; rfl) | (refine wpAnyH_take (i := 1) (v := ?_) rfl (by kernel_rfl) (by kernel_rfl) (by kernel_rfl) (fun _ _ _ h => h) (Or.inl ⟨?_, ?_⟩) (by assumption) ?_; rotate_left; rfl; focus (intro w hSw; (try dsimp only at hSw); go_simp; all_goals (with_reducible rfl)))
              (try simp only [List.getElem_toArray, List.getElem_cons_zero, List.getElem_cons_succ, Act.put, List.setIfInBounds_toArray, List.set_cons_zero, List.set_cons_succ])
              first | (refine wpAnyH_take (i := 2) (v := _) rfl (by kernel_rfl) (by kernel_rfl) (by kernel_rfl) (fun _ _ _ h => h) (Or.inr ⟨?_, rfl⟩) (by assumption) ?_; rfl) | (refine wpAnyH_take (i := 2) (v := ?_) rfl (by kernel_rfl) (by kernel_rfl) (by kernel_rfl) (fun _ _ _ h => h) (Or.inl ⟨?_, ?_⟩) (by assumption) ?_; rotate_left; rfl; focus (intro w hSw; (try dsimp only at hSw); go_simp; all_goals (with_reducible rfl)))
              (try simp only [List.getElem_toArray, List.getElem_cons_zero, List.getElem_cons_succ, Act.put, List.setIfInBounds_toArray, List.set_cons_zero, List.set_cons_succ])
              first | (refine wpAnyH_take (i := 3) (v := _) rfl (by kernel_rfl) (by kernel_rfl) (by kernel_rfl) (fun _ _ _ h => h) (Or.inr ⟨?_, rfl⟩) (by assumption) ?_; rfl) | (refine wpAnyH_take (i := 3) (v := ?_) rfl (by kernel_rfl) (by kernel_rfl) (by kernel_rfl) (fun _ _ _ h => h) (Or.inl ⟨?_, ?_⟩) (by assumption) ?_; rotate_left; rfl; focus (intro w hSw; (try dsimp only at hSw); go_simp; all_goals (with_reducible rfl)))
              (try simp only [List.getElem_toArray, List.getElem_cons_zero, List.getElem_cons_succ, Act.put, List.setIfInBounds_toArray, List.set_cons_zero, List.set_cons_succ])
              first | (refine wpAnyH_take (i := 4) (v := _) rfl (by kernel_rfl) (by kernel_rfl) (by kernel_rfl) (fun _ _ _ h => h) (Or.inr ⟨?_, rfl⟩) (by assumption) ?_; rfl) | (refine wpAnyH_take (i := 4) (v := ?_) rfl (by kernel_rfl) (by kernel_rfl) (by kernel_rfl) (fun _ _ _ h => h) (Or.inl ⟨?_, ?_⟩) (by assumption) ?_; rotate_left; rfl; focus (intro w hSw; (try dsimp only at hSw); go_simp; all_goals (with_reducible rfl)))
              (try simp only [List.getElem_toArray, List.getElem_cons_zero, List.getElem_cons_succ, Act.put, List.setIfInBounds_toArray, List.set_cons_zero, List.set_cons_succ])
              first | (refine wpAnyH_take (i := 5) (v := _) rfl (by kernel_rfl) (by kernel_rfl) (by kernel_rfl) (fun _ _ _ h => h) (Or.inr ⟨?_, rfl⟩) (by assumption) ?_; rfl) | (refine wpAnyH_take (i := 5) (v := ?_) rfl (by kernel_rfl) (by kernel_rfl) (by kernel_rfl) (fun _ _ _ h => h) (Or.inl ⟨?_, ?_⟩) (by assumption) ?_; rotate_left; rfl; focus (intro w hSw; (try dsimp only at hSw); go_simp; all_goals (with_reducible rfl)))
              (try simp only [List.getElem_toArray, List.getElem_cons_zero, List.getElem_cons_succ, Act.put, List.setIfInBounds_toArray, List.set_cons_zero, List.set_cons_succ])
              first | (refine wpAnyH_take (i := 6) (v := _) rfl (by kernel_rfl) (by kernel_rfl) (by kernel_rfl) (fun _ _ _ h => h) (Or.inr ⟨?_, rfl⟩) (by assumption) ?_; rfl) | (refine wpAnyH_take (i := 6) (v := ?_) rfl (by kernel_rfl) (by kernel_rfl) (by kernel_rfl) (fun _ _ _ h => h) (Or.inl ⟨?_, ?_⟩) (by assumption) ?_; rotate_left; rfl; focus (intro w hSw; (try dsimp only at hSw); go_simp; all_goals (with_reducible rfl)))
              (try simp only [List.getElem_toArray, List.getElem_cons_zero, List.getElem_cons_succ, Act.put, List.setIfInBounds_toArray, List.set_cons_zero, List.set_cons_succ])
              first | (refine wpAnyH_take (i := 7) (v := _) rfl (by kernel_rfl) (by kernel_rfl) (by kernel_rfl) (fun _ _ _ h => h) (Or.inr ⟨?_, rfl⟩) (by assumption) ?_; rfl) | (refine wpAnyH_take (i := 7) (v := ?_) rfl (by kernel_rfl) (by kernel_rfl) (by kernel_rfl) (fun _ _ _ h => h) (Or.inl ⟨?_, ?_⟩) (by assumption) ?_; rotate_left; rfl; focus (intro w hSw; (try dsimp only at hSw); go_simp; all_goals (with_reducible rfl)))
              (try simp only [List.getElem_toArray, List.getElem_cons_zero, List.getElem_cons_succ, Act.put, List.setIfInBounds_toArray, List.set_cons_zero, List.set_cons_succ])
              first | (refine wpAnyH_take (i := 8) (v := _) rfl (by kernel_rfl) (by kernel_rfl) (by kernel_rfl) (fun _ _ _ h => h) (Or.inr ⟨?_, rfl⟩) (by assumption) ?_; rfl) | (refine wpAnyH_take (i := 8) (v := ?_) rfl (by kernel_rfl) (by kernel_rfl) (by kernel_rfl) (fun _ _ _ h => h) (Or.inl ⟨?_, ?_⟩) (by assumption) ?_; rotate_left; rfl; focus (intro w hSw; (try dsimp only at hSw); go_simp; all_goals (with_reducible rfl)))
              (try simp only [List.getElem_toArray, List.getElem_cons_zero, List.getElem_cons_succ, Act.put, List.setIfInBounds_toArray, List.set_cons_zero, List.set_cons_succ])
              refine wpAnyH_ready (rs := [9]) (by kernel_rfl) (by simp) ?_
              refine AllReadyH.cons rfl (fun K hK => ?_) AllReadyH.nil
              go_simp
              go_at_call 12
              have cq := ca.out wr.drew (show ClsAt wr.drew A4 c4 L from HL.out.drewN 1)
              with_reducible refine cq.mono ?_
              rintro _ wa ⟨rfl, hbn⟩
              replace HB := Lib.hid (below_next (w1 := wr.drew) (below_drewN HB.out 1) hbn)
              replace HL := Lib.hid (ClsAt.below (w := wr.drew) (show ClsAt wr.drew A4 c4 L from HL.out.drewN 1) hbn)
              replace HN := Lib.hid (StrsAt.below (w := wr.drew) (show StrsAt wr.drew (some ai) c10 IL from HN.out.drewN 1) hbn)
              replace HS := Lib.hid (Blk.below (w := wr.drew) HS.out.drew hbn HS.out.drew.lt)
              clear hci hcs
              obtain ⟨ai2, ei2, hci⟩ := HN.out.get HQ.out
              injection ei2 with ei2
              subst ei2
              have hcs : wa.cell? ⟨g11, k, none⟩ = some (.string ⟨s.toArray⟩) := by rw [HS.out.cell k]; simp [strVs, strV, HSk.out]
              refine hK.out _ _ ⟨hci, hcs⟩ (fun hHeld => ?_)
              clear hK K hbn cq
              (try simp only [List.getElem_toArray, List.getElem_cons_zero, List.getElem_cons_succ, Act.put, List.setIfInBounds_toArray, List.set_cons_zero, List.set_cons_succ])
              first | (refine wpAnyH_take (i := 10) (v := _) rfl (by kernel_rfl) (by kernel_rfl) (by kernel_rfl) (fun _ _ _ h => h) (Or.inr ⟨?_, rfl⟩) (by assumption) ?_; rfl) | (refine wpAnyH_take (i := 10) (v := ?_) rfl (by kernel_rfl) (by kernel_rfl) (by kernel_rfl) (fun _ _ _ h => h) (Or.inl ⟨?_, ?_⟩) (by assumption) ?_; rotate_left; rfl; focus (intro w hSw; (try dsimp only at hSw); go_simp; all_goals (with_reducible rfl)))
              (try simp only [List.getElem_toArray, List.getElem_cons_zero, List.getElem_cons_succ, Act.put, List.setIfInBounds_toArray, List.set_cons_zero, List.set_cons_succ])
              first | (refine wpAnyH_take (i := 11) (v := _) rfl (by kernel_rfl) (by kernel_rfl) (by kernel_rfl) (fun _ _ _ h => h) (Or.inr ⟨?_, rfl⟩) (by assumption) ?_; rfl) | (refine wpAnyH_take (i := 11) (v := ?_) rfl (by kernel_rfl) (by kernel_rfl) (by kernel_rfl) (fun _ _ _ h => h) (Or.inl ⟨?_, ?_⟩) (by assumption) ?_; rotate_left; rfl; focus (intro w hSw; (try dsimp only at hSw); go_simp; all_goals (with_reducible rfl)))
              (try simp only [List.getElem_toArray, List.getElem_cons_zero, List.getElem_cons_succ, Act.put, List.setIfInBounds_toArray, List.set_cons_zero, List.set_cons_succ])
              first | (refine wpAnyH_take (i := 12) (v := _) rfl (by kernel_rfl) (by kernel_rfl) (by kernel_rfl) (fun _ _ _ h => h) (Or.inr ⟨?_, rfl⟩) (by assumption) ?_; rfl) | (refine wpAnyH_take (i := 12) (v := ?_) rfl (by kernel_rfl) (by kernel_rfl) (by kernel_rfl) (fun _ _ _ h => h) (Or.inl ⟨?_, ?_⟩) (by assumption) ?_; rotate_left; rfl; focus (intro w hSw; (try dsimp only at hSw); go_simp; all_goals (with_reducible rfl)))
              (try simp only [List.getElem_toArray, List.getElem_cons_zero, List.getElem_cons_succ, Act.put, List.setIfInBounds_toArray, List.set_cons_zero, List.set_cons_succ])
              first | (refine wpAnyH_take (i := 13) (v := _) rfl (by kernel_rfl) (by kernel_rfl) (by kernel_rfl) (fun _ _ _ h => h) (Or.inr ⟨?_, rfl⟩) (by assumption) ?_; rfl) | (refine wpAnyH_take (i := 13) (v := ?_) rfl (by kernel_rfl) (by kernel_rfl) (by kernel_rfl) (fun _ _ _ h => h) (Or.inl ⟨?_, ?_⟩) (by assumption) ?_; rotate_left; rfl; focus (intro w hSw; (try dsimp only at hSw); go_simp; all_goals (with_reducible rfl)))
              (try simp only [List.getElem_toArray, List.getElem_cons_zero, List.getElem_cons_succ, Act.put, List.setIfInBounds_toArray, List.set_cons_zero, List.set_cons_succ])
              first | (refine wpAnyH_take (i := 14) (v := _) rfl (by kernel_rfl) (by kernel_rfl) (by kernel_rfl) (fun _ _ _ h => h) (Or.inr ⟨?_, rfl⟩) (by assumption) ?_; rfl) | (refine wpAnyH_take (i := 14) (v := ?_) rfl (by kernel_rfl) (by kernel_rfl) (by kernel_rfl) (fun _ _ _ h => h) (Or.inl ⟨?_, ?_⟩) (by assumption) ?_; rotate_left; rfl; focus (intro w hSw; (try dsimp only at hSw); go_simp; all_goals (with_reducible rfl)))
              (try simp only [List.getElem_toArray, List.getElem_cons_zero, List.getElem_cons_succ, Act.put, List.setIfInBounds_toArray, List.set_cons_zero, List.set_cons_succ])
              refine wpAnyH_done (by kernel_rfl) ?_ _
              clear hHeld
              go_wp2_with fail
              refine wp_region_held_drew (S := fun W => W.cell? (ai.add i) = some (.string ⟨q.toArray⟩) ∧ W.cell? ⟨g11, k, none⟩ = some (.string ⟨s.toArray⟩)) (by kernel_rfl) ⟨hci, hcs⟩ (fun hHeld => ?_)
              first | (refine wpAnyH_take (i := 0) (v := _) rfl (by kernel_rfl) (by kernel_rfl) (by kernel_rfl) (fun _ _ _ h => h) (Or.inr ⟨?_, rfl⟩) (by assumption) ?_; rfl) | (refine wpAnyH_take (i := 0) (v := ?_) rfl (by kernel_rfl) (by kernel_rfl) (by kernel_rfl) (fun _ _ _ h => h) (Or.inl ⟨?_, ?_⟩) (by assumption) ?_; rotate_left; rfl; focus (intro w hSw; (try dsimp only at hSw); go_simp; all_goals (with_reducible rfl)))
              (try simp only [List.getElem_toArray, List.getElem_cons_zero, List.getElem_cons_succ, Act.put, List.setIfInBounds_toArray, List.set_cons_zero, List.set_cons_succ])
              first | (refine wpAnyH_take (i := 1) (v := _) rfl (by kernel_rfl) (by kernel_rfl) (by kernel_rfl) (fun _ _ _ h => h) (Or.inr ⟨?_, rfl⟩) (by assumption) ?_; rfl) | (refine wpAnyH_take (i := 1) (v := ?_) rfl (by kernel_rfl) (by kernel_rfl) (by kernel_rfl) (fun _ _ _ h => h) (Or.inl ⟨?_, ?_⟩) (by assumption) ?_; rotate_left; rfl; focus (intro w hSw; (try dsimp only at hSw); go_simp; all_goals (with_reducible rfl)))
              (try simp only [List.getElem_toArray, List.getElem_cons_zero, List.getElem_cons_succ, Act.put, List.setIfInBounds_toArray, List.set_cons_zero, List.set_cons_succ])
              first | (refine wpAnyH_take (i := 2) (v := _) rfl (by kernel_rfl) (by kernel_rfl) (by kernel_rfl) (fun _ _ _ h => h) (Or.inr ⟨?_, rfl⟩) (by assumption) ?_; rfl) | (refine wpAnyH_take (i := 2) (v := ?_) rfl (by kernel_rfl) (by kernel_rfl) (by kernel_rfl) (fun _ _ _ h => h) (Or.inl ⟨?_, ?_⟩) (by assumption) ?_; rotate_left; rfl; focus (intro w hSw; (try dsimp only at hSw); go_simp; all_goals (with_reducible rfl)))
              (try simp only [List.getElem_toArray, List.getElem_cons_zero, List.getElem_cons_succ, Act.put, List.setIfInBounds_toArray, List.set_cons_zero, List.set_cons_succ])
              first | (refine wpAnyH_take (i := 3) (v := _) rfl (by kernel_rfl) (by kernel_rfl) (by kernel_rfl) (fun _ _ _ h => h) (Or.inr ⟨?_, rfl⟩) (by assumption) ?_; rfl) | (refine wpAnyH_take (i := 3) (v := ?_) rfl (by kernel_rfl) (by kernel_rfl) (by kernel_rfl) (fun _ _ _ h => h) (Or.inl ⟨?_, ?_⟩) (by assumption) ?_; rotate_left; rfl; focus (intro w hSw; (try dsimp only at hSw); go_simp; all_goals (with_reducible rfl)))
              (try simp only [List.getElem_toArray, List.getElem_cons_zero, List.getElem_cons_succ, Act.put, List.setIfInBounds_toArray, List.set_cons_zero, List.set_cons_succ])
              first | (refine wpAnyH_take (i := 4) (v := _) rfl (by kernel_rfl) (by kernel_rfl) (by kernel_rfl) (fun _ _ _ h => h) (Or.inr ⟨?_, rfl⟩) (by assumption) ?_; rfl) | (refine wpAnyH_take (i := 4) (v := ?_) rfl (by kernel_rfl) (by kernel_rfl) (by kernel_rfl) (fun _ _ _ h => h) (Or.inl ⟨?_, ?_⟩) (by assumption) ?_; rotate_left; rfl; focus (intro w hSw; (try dsimp only at hSw); go_simp; all_goals (with_reducible rfl)))
              (try simp only [List.getElem_toArray, List.getElem_cons_zero, List.getElem_cons_succ, Act.put, List.setIfInBounds_toArray, List.set_cons_zero, List.set_cons_succ])
              first | (refine wpAnyH_take (i := 5) (v := _) rfl (by kernel_rfl) (by kernel_rfl) (by kernel_rfl) (fun _ _ _ h => h) (Or.inr ⟨?_, rfl⟩) (by assumption) ?_; rfl) | (refine wpAnyH_take (i := 5) (v := ?_) rfl (by kernel_rfl) (by kernel_rfl) (by kernel_rfl) (fun _ _ _ h => h) (Or.inl ⟨?_, ?_⟩) (by assumption) ?_; rotate_left; rfl; focus (intro w hSw; (try dsimp only at hSw); go_simp; all_goals (with_reducible rfl)))
              (try simp only [List.getElem_toArray, List.getElem_cons_zero, List.getElem_cons_succ, Act.put, List.setIfInBounds_toArray, List.set_cons_zero, List.set_cons_succ])
              first | (refine wpAnyH_take (i := 6) (v := _) rfl (by kernel_rfl) (by kernel_rfl) (by kernel_rfl) (fun _ _ _ h => h) (Or.inr ⟨?_, rfl⟩) (by assumption) ?_; rfl) | (refine wpAnyH_take (i := 6) (v := ?_) rfl (by kernel_rfl) (by kernel_rfl) (by kernel_rfl) (fun _ _ _ h => h) (Or.inl ⟨?_, ?_⟩) (by assumption) ?_; rotate_left; rfl; focus (intro w hSw; (try dsimp only at hSw); go_simp; all_goals (with_reducible rfl)))
              (try simp only [List.getElem_toArray, List.getElem_cons_zero, List.getElem_cons_succ, Act.put, List.setIfInBounds_toArray, List.set_cons_zero, List.set_cons_succ])
              first | (refine wpAnyH_take (i := 7) (v := _) rfl (by kernel_rfl) (by kernel_rfl) (by kernel_rfl) (fun _ _ _ h => h) (Or.inr ⟨?_, rfl⟩) (by assumption) ?_; rfl) | (refine wpAnyH_take (i := 7) (v := ?_) rfl (by kernel_rfl) (by kernel_rfl) (by kernel_rfl) (fun _ _ _ h => h) (Or.inl ⟨?_, ?_⟩) (by assumption) ?_; rotate_left; rfl; focus (intro w hSw; (try dsimp only at hSw); go_simp; all_goals (with_reducible rfl)))
              (try simp only [List.getElem_toArray, List.getElem_cons_zero, List.getElem_cons_succ, Act.put, List.setIfInBounds_toArray, List.set_cons_zero, List.set_cons_succ])
              first | (refine wpAnyH_take (i := 8) (v := _) rfl (by kernel_rfl) (by kernel_rfl) (by kernel_rfl) (fun _ _ _ h => h) (Or.inr ⟨?_, rfl⟩) (by assumption) ?_; rfl) | (refine wpAnyH_take (i := 8) (v := ?_) rfl (by kernel_rfl) (by kernel_rfl) (by kernel_rfl) (fun _ _ _ h => h) (Or.inl ⟨?_, ?_⟩) (by assumption) ?_; rotate_left; rfl; focus (intro w hSw; (try dsimp only at hSw); go_simp; all_goals (with_reducible rfl)))
              (try simp only [List.getElem_toArray, List.getElem_cons_zero, List.getElem_cons_succ, Act.put, List.setIfInBounds_toArray, List.set_cons_zero, List.set_cons_succ])
              refine wpAnyH_ready (rs := [9]) (by kernel_rfl) (by simp) ?_
              refine AllReadyH.cons rfl (fun K hK => ?_) AllReadyH.nil
              go_simp
              go_at_call 13
              have cq := cr.out wa.drew (show ClsAt wa.drew A4 c4 L from HL.out.drewN 1)
              with_reducible refine cq.mono ?_
              rintro _ wb ⟨rfl, hbn⟩
              replace HB := Lib.hid (below_next (w1 := wa.drew) (below_drewN HB.out 1) hbn)
              replace HL := Lib.hid (ClsAt.below (w := wa.drew) (show ClsAt wa.drew A4 c4 L from HL.out.drewN 1) hbn)
              replace HN := Lib.hid (StrsAt.below (w := wa.drew) (show StrsAt wa.drew (some ai) c10 IL from HN.out.drewN 1) hbn)
              replace HS := Lib.hid (Blk.below (w := wa.drew) HS.out.drew hbn HS.out.drew.lt)
              clear hci hcs
              obtain ⟨ai2, ei2, hci⟩ := HN.out.get HQ.out
              injection ei2 with ei2
              subst ei2
              have hcs : wb.cell? ⟨g11, k, none⟩ = some (.string ⟨s.toArray⟩) := by rw [HS.out.cell k]; simp [strVs, strV, HSk.out]
              refine hK.out _ _ ⟨hci, hcs⟩ (fun hHeld => ?_)
              clear hK K hbn cq
              (try simp only [List.getElem_toArray, List.getElem_cons_zero, List.getElem_cons_succ, Act.put, List.setIfInBounds_toArray, List.set_cons_zero, List.set_cons_succ])
              first | (refine wpAnyH_take (i := 10) (v := _) rfl (by kernel_rfl) (by kernel_rfl) (by kernel_rfl) (fun _ _ _ h => h) (Or.inr ⟨?_, rfl⟩) (by assumption) ?_; rfl) | (refine wpAnyH_take (i := 10) (v := ?_) rfl (by kernel_rfl) (by kernel_rfl) (by kernel_rfl) (fun _ _ _ h => h) (Or.inl ⟨?_, ?_⟩) (by assumption) ?_; rotate_left; rfl; focus (intro w hSw; (try dsimp only at hSw); go_simp; all_goals (with_reducible rfl)))
              (try simp only [List.getElem_toArray, List.getElem_cons_zero, List.getElem_cons_succ, Act.put, List.setIfInBounds_toArray, List.set_cons_zero, List.set_cons_succ])
              first | (refine wpAnyH_take (i := 11) (v := _) rfl (by kernel_rfl) (by kernel_rfl) (by kernel_rfl) (fun _ _ _ h => h) (Or.inr ⟨?_, rfl⟩) (by assumption) ?_; rfl) | (refine wpAnyH_take (i := 11) (v := ?_) rfl (by kernel_rfl) (by kernel_rfl) (by kernel_rfl) (fun _ _ _ h => h) (Or.inl ⟨?_, ?_⟩) (by assumption) ?_; rotate_left; rfl; focus (intro w hSw; (try dsimp only at hSw); go_simp; all_goals (with_reducible rfl)))
              (try simp only [List.getElem_toArray, List.getElem_cons_zero, List.getElem_cons_succ, Act.put, List.setIfInBounds_toArray, List.set_cons_zero, List.set_cons_succ])
              first | (refine wpAnyH_take (i := 12) (v := _) rfl (by kernel_rfl) (by kernel_rfl) (by kernel_rfl) (fun _ _ _ h => h) (Or.inr ⟨?_, rfl⟩) (by assumption) ?_; rfl) | (refine wpAnyH_take (i := 12) (v := ?_) rfl (by kernel_rfl) (by kernel_rfl) (by kernel_rfl) (fun _ _ _ h => h) (Or.inl ⟨?_, ?_⟩) (by assumption) ?_; rotate_left; rfl; focus (intro w hSw; (try dsimp only at hSw); go_simp; all_goals (with_reducible rfl)))
              (try simp only [List.getElem_toArray, List.getElem_cons_zero, List.getElem_cons_succ, Act.put, List.setIfInBounds_toArray, List.set_cons_zero, List.set_cons_succ])
              first | (refine wpAnyH_take (i := 13) (v := _) rfl (by kernel_rfl) (by kernel_rfl) (by kernel_rfl) (fun _ _ _ h => h) (Or.inr ⟨?_, rfl⟩) (by assumption) ?_; rfl) | (refine wpAnyH_take (i := 13) (v := ?_) rfl (by kernel_rfl) (by kernel_rfl) (by kernel_rfl) (fun _ _ _ h => h) (Or.inl ⟨?_, ?_⟩) (by assumption) ?_; rotate_left; rfl; focus (intro w hSw; (try dsimp only at hSw); go_simp; all_goals (with_reducible rfl)))
              (try simp only [List.getElem_toArray, List.getElem_cons_zero, List.getElem_cons_succ, Act.put, List.setIfInBounds_toArray, List.set_cons_zero, List.set_cons_succ])
              first | (refine wpAnyH_take (i := 14) (v := _) rfl (by kernel_rfl) (by kernel_rfl) (by kernel_rfl) (fun _ _ _ h => h) (Or.inr ⟨?_, rfl⟩) (by assumption) ?_; rfl) | (refine wpAnyH_take (i := 14) (v := ?_) rfl (by kernel_rfl) (by kernel_rfl) (by kernel_rfl) (fun _ _ _ h => h) (Or.inl ⟨?_, ?_⟩) (by assumption) ?_; rotate_left; rfl; focus (intro w hSw; (try dsimp only at hSw); go_simp; all_goals (with_reducible rfl)))
              (try simp only [List.getElem_toArray, List.getElem_cons_zero, List.getElem_cons_succ, Act.put, List.setIfInBounds_toArray, List.set_cons_zero, List.set_cons_succ])
              refine wpAnyH_done (by kernel_rfl) ?_ _
              clear hHeld
              clear hci hcs ca cr HSk
              go_wp2_with fail
              exact ⟨⟨k + 1, by omega, by go_num, HB, HL, HN, HS⟩, by simp [intOf]; omega⟩
end Go.Proofs.YtekbdfnbnpmclaaDoor

/- UriBounds: so many bytes, so long a host, and no more. Condition: the table of digits is laid. -/
import Derived.Test.YtolfcpbcccbmmaaDoorUl
set_option linter.unusedVariables false
set_option linter.unusedSimpArgs false
set_option maxRecDepth 20000
namespace Go.Proofs.YtolfcpbcccbmmaaDoor
open Go.RowKit Pc
def hL (k : Nat) : List UInt8 := List.replicate k 104
def pL (n : Nat) : List UInt8 := 47 :: List.replicate n 112
theorem hL_host (k : Nat) (h : 1 ≤ k) : hostB (hL k) = decide (k ≤ 64) := by
  have : (hL k).all (fun b => inHostB b.toNat) = true := by
    rw [List.all_eq_true]
    intro x hx
    rw [List.eq_of_mem_replicate hx]
    decide
  rw [hostB, this, hL, List.length_replicate, decide_eq_true h]
  simp
theorem pL_path (n : Nat) : pathB (pL n) = true := by
  have : (pL n).all (fun b => inPathB b.toNat) = true := by
    rw [List.all_eq_true]
    intro x hx
    rcases List.mem_cons.1 hx with rfl | hx
    · decide
    · rw [List.eq_of_mem_replicate hx]
      decide
  rw [pathB, this]
  rfl
theorem pL_len (n : Nat) : (pL n).length = n + 1 := by simp [pL]
theorem may_nil (h p : List UInt8) : mayB ⟨h, p, []⟩ = (hostB h && pathB p && decide (8 + h.length + p.length ≤ 1024)) := by
  rw [mayB, show unlikeQ [] = true from rfl, show targetL ⟨h, p, []⟩ = p from rfl]
  simp
theorem host_bad (h : List UInt8) (hh : hostB h = false) (hn : ∀ x ∈ h, x ≠ 47) (hl : h.length ≤ 1000) : (uriE (schemeL ++ h ++ [47])).1 = 3 := by
  have hs : schemeL.length = 8 := rfl
  have e0 : (schemeL ++ h ++ [47]).length ≤ 1024 := by rw [List.length_append, List.length_append]; simp only [List.length_cons, List.length_nil]; omega
  have e1 : (schemeL ++ h ++ [47]).take 8 = schemeL := by rw [List.append_assoc, ← hs, List.take_left]
  have e2 : (schemeL ++ h ++ [47]).drop 8 = h ++ 47 :: [] := by rw [List.append_assoc, ← hs, List.drop_left]
  rw [uriE, if_neg (by omega), if_pos e1, e2, cutP_front 47 _ _ hn]
  simp only
  rw [if_pos hh]
theorem hL_no (k : Nat) : ∀ x ∈ hL k, x ≠ 47 := by
  intro x hx
  rw [List.eq_of_mem_replicate hx]
  decide
theorem ev_host (k : Nat) (h1 : 1 ≤ k) (h2 : k ≤ 100) : (uriE (schemeL ++ hL k ++ [47])).1 = if k ≤ 64 then 0 else 3 := by
  by_cases h : k ≤ 64
  · rw [if_pos h]
    have hm : mayB ⟨hL k, [47], []⟩ = true := by
      rw [may_nil, hL_host k h1, decide_eq_true h, show pathB [47] = true from rfl, hL, List.length_replicate]
      simp
      omega
    have := uri_print hm
    rw [show uriL ⟨hL k, [47], []⟩ = schemeL ++ hL k ++ [47] from rfl] at this
    rw [this]
  · rw [if_neg h]
    refine host_bad _ ?_ (hL_no k) (by rw [hL, List.length_replicate]; omega)
    rw [hL_host k h1, decide_eq_false h]
theorem ev_path (n : Nat) : (uriE (schemeL ++ [97, 115] ++ pL n)).1 = if n + 11 ≤ 1024 then 0 else 4 := by
  have hs : schemeL.length = 8 := rfl
  by_cases h : n + 11 ≤ 1024
  · rw [if_pos h]
    have hm : mayB ⟨[97, 115], pL n, []⟩ = true := by
      rw [may_nil, show hostB [97, 115] = true from rfl, pL_path, pL_len]
      simp
      omega
    have := uri_print hm
    rw [show uriL ⟨[97, 115], pL n, []⟩ = schemeL ++ [97, 115] ++ pL n from rfl] at this
    rw [this]
  · rw [if_neg h, uriE, if_pos (by rw [List.length_append, List.length_append, pL_len]; simp only [List.length_cons, List.length_nil]; omega)]
theorem ev_ftp (n : Nat) : (uriE ([102, 116, 112, 58] ++ schemeL ++ [97, 115] ++ pL n)).1 = if n + 15 ≤ 1024 then 3 else 4 := by
  have hs : schemeL.length = 8 := rfl
  have hl : ([102, 116, 112, 58] ++ schemeL ++ [97, 115] ++ pL n).length = n + 15 := by rw [List.length_append, List.length_append, List.length_append, pL_len]; simp only [List.length_cons, List.length_nil]; omega
  by_cases h : n + 15 ≤ 1024
  · rw [if_pos h, uriE, if_neg (by omega), if_neg]
    intro e
    have := congrArg List.head? e
    simp [schemeL] at this
  · rw [if_neg h, uriE, if_pos (by omega)]
theorem cat_l {s t : ByteArray} {a b : List UInt8} (hs : s.data.toList = a) (ht : t.data.toList = b) : (s ++ t).data.toList = a ++ b := by
  rw [← hs, ← ht]; simp
theorem size_of {s : ByteArray} {l : List UInt8} (h : s.data.toList = l) : s.size = l.length := by rw [← h, Lib.size_eq]
def CodeU (n : Nat) (w : World) (e : Ending) (w' : World) : Prop := ∃ (u : Ur) (A : Option Addr) (c : Nat), e = .returned (.tuple #[.agg (u.arr A c), .int .i64 (n : Int)]) ∧ Below w.heap.size w w'
theorem code_walk (s : ByteArray) (l : List UInt8) (hs : s.data.toList = l) (n : Nat) (hn : (uriE l).1 = n) (w : World) (hd : DigOk w) (hm : s.size ≤ 1000000) :
    Calls Tryd.prog 14 #[.string s] w (CodeU n w) := by
  refine (uparse_walk s l hs w hd hm).mono ?_
  rintro e w' ⟨A, c, he, _, hb⟩
  exact ⟨_, A, c, by rw [he, hn], hb⟩
set_option maxHeartbeats 100000000 in
set_option maxRecDepth 100000 in
theorem uriBounds_law (z1 z2 : Int) (w : World) (h1 : -9223372036854775808 ≤ z1 ∧ z1 ≤ 9223372036854775807) (h2 : -9223372036854775808 ≤ z2 ∧ z2 ≤ 9223372036854775807) (hd : DigOk w) :
    Calls Tryd.prog 5 #[.int .i64 z1, .int .i64 z2] w fun e w' => e = .returned (.bool true) ∧ Below w.heap.size w w' := by
  have HD := Lib.hid hd
  have c1 := Lib.hid (fun w => within11_walk z1 20 w (by decide) (by decide) h1)
  have c2 := Lib.hid (fun w => within11_walk z2 8 w (by decide) (by decide) h2)
  obtain ⟨r, hr⟩ : ∃ r : Nat, z1 % 20 = r := ⟨(z1 % 20).toNat, by omega⟩
  obtain ⟨q, hq⟩ : ∃ q : Nat, z2 % 8 = q := ⟨(z2 % 8).toNat, by omega⟩
  have hr20 : r < 20 := by omega
  have hq8 : q < 8 := by omega
  rw [hr] at c1
  rw [hq] at c2
  clear hr hq h1 h2 hd
  go_enter Tryd.func5, Tryd.ntmps5
  go_wp2_with fail
  refine (known_walk w HD.out).mono ?_
  rintro _ w1 ⟨rfl, hb⟩
  go_wp2_with fail
  refine (c1.out _).mono ?_
  rintro _ w1 ⟨rfl, rfl⟩
  go_wp2_with fail
  refine (c2.out _).mono ?_
  rintro _ w1 ⟨rfl, rfl⟩
  go_wp2_with fail
  go_loopw [7, 8] (fun sv iv wr => ∃ (k : Nat) (s : ByteArray), k ≤ 55 + r ∧ iv = .int .i64 k ∧ sv = .string s ∧ Hid (s.data.toList = hL k) ∧ Below w.heap.size w wr) (fun _ iv _ => 55 + r - (intOf iv).toNat)
  case atStart => exact ⟨0, ⟨#[]⟩, by omega, rfl, rfl, rfl, hb⟩
  case round =>
    clear hb
    obtain ⟨k, s, hk, rfl, rfl, hs, hb⟩ := hrel
    have hsz : s.size ≤ 80 := by rw [size_of hs.out, hL, List.length_replicate]; omega
    by_cases hlt : k < 55 + r
    · have hn : Hid ((s ++ ⟨#[104]⟩).data.toList = hL (k + 1)) := by
        show _ = _
        rw [cat_l hs.out rfl, hL, hL, List.replicate_succ']
      go_wp2_with fail
      exact ⟨⟨k + 1, _, by omega, by go_num, rfl, hn, hb⟩, by simp [intOf]; omega⟩
    · obtain rfl : k = 55 + r := by omega
      have HB := Lib.hid hb
      clear hb
      go_wp2_with fail
      go_loopw [9] (fun sv wr => ∃ (n : Nat) (t : ByteArray), n ≤ 1009 + q ∧ sv = .string t ∧ Hid (t.data.toList = pL n) ∧ t.size = n + 1 ∧ Hid (Below w.heap.size w wr)) (fun sv _ => 3000 - vLen sv)
      case atStart => exact ⟨0, ⟨#[47]⟩, by omega, rfl, rfl, rfl, HB⟩
      case round =>
        clear HB
        obtain ⟨n, t, hn, rfl, ht, hts, HB⟩ := hrel
        have hz1 : ¬ 9223372036854775807 < 10 + t.size := by omega
        by_cases hlt2 : n < 1009 + q
        · have hn2 : Hid ((t ++ ⟨#[112]⟩).data.toList = pL (n + 1)) := by
            show _ = _
            rw [cat_l ht.out rfl, pL, pL, List.replicate_succ']
            rfl
          have hdl : decide ((10 : Int) + (t.size : Int) < 1020 + (q : Int)) = true := by simp; omega
          have hts2 : (t ++ ⟨#[112]⟩).size = n + 1 + 1 := by rw [ByteArray.size_append, hts]; rfl
          go_wp2_with fail
          refine ⟨⟨n + 1, _, by omega, rfl, hn2, hts2, HB⟩, ?_⟩
          show 3000 - (t ++ ⟨#[112]⟩).size < 3000 - t.size
          omega
        · obtain rfl : n = 1009 + q := by omega
          have hdl : decide ((10 : Int) + (t.size : Int) < 1020 + (q : Int)) = false := by simp; omega
          have d1 := Lib.hid (fun w h => code_walk (⟨#[104, 116, 116, 112, 115, 58, 47, 47]⟩ ++ s ++ ⟨#[47]⟩) _ (cat_l (cat_l (s := ⟨#[104, 116, 116, 112, 115, 58, 47, 47]⟩) (a := schemeL) rfl hs.out) (b := [47]) rfl) _ (ev_host (55 + r) (by omega) (by omega)) w h (by rw [ByteArray.size_append, ByteArray.size_append]; have : (⟨#[104, 116, 116, 112, 115, 58, 47, 47]⟩ : ByteArray).size = 8 := rfl; have : (⟨#[47]⟩ : ByteArray).size = 1 := rfl; omega))
          have d2 := Lib.hid (fun w h => code_walk (⟨#[104, 116, 116, 112, 115, 58, 47, 47, 97, 115]⟩ ++ t) _ (cat_l (s := ⟨#[104, 116, 116, 112, 115, 58, 47, 47, 97, 115]⟩) (a := schemeL ++ [97, 115]) rfl ht.out) _ (ev_path (1009 + q)) w h (by rw [ByteArray.size_append]; have : (⟨#[104, 116, 116, 112, 115, 58, 47, 47, 97, 115]⟩ : ByteArray).size = 10 := rfl; omega))
          have d3 := Lib.hid (fun w h => code_walk (⟨#[102, 116, 112, 58, 104, 116, 116, 112, 115, 58, 47, 47, 97, 115]⟩ ++ t) _ (cat_l (s := ⟨#[102, 116, 112, 58, 104, 116, 116, 112, 115, 58, 47, 47, 97, 115]⟩) (a := [102, 116, 112, 58] ++ schemeL ++ [97, 115]) rfl ht.out) _ (ev_ftp (1009 + q)) w h (by rw [ByteArray.size_append]; have : (⟨#[102, 116, 112, 58, 104, 116, 116, 112, 115, 58, 47, 47, 97, 115]⟩ : ByteArray).size = 14 := rfl; omega))
          have m1 := Lib.hid (show ∀ W, DigOk W → Calls Tryd.prog 8 #[.agg #[.string ⟨#[97, 115]⟩, .string t, .slice none 0 0]] W fun e w' => e = .returned (.bool (mayB ⟨[97, 115], pL (1009 + q), []⟩)) ∧ Below W.heap.size W w' from fun W h => by
            rw [str_eta t _ ht.out]
            exact may_walk ⟨[97, 115], pL (1009 + q), []⟩ none 0 W ⟨FsAt.none_ _ _ _, (show 2 ≤ 10000 by decide), by rw [pL_len]; omega, (show sumF [] ≤ 10000 by decide)⟩ h (show 0 ≤ 1000 by decide))
          have m2 := Lib.hid (show ∀ W, DigOk W → Calls Tryd.prog 8 #[.agg #[.string s, .string ⟨#[47]⟩, .slice none 0 0]] W fun e w' => e = .returned (.bool (mayB ⟨hL (55 + r), [47], []⟩)) ∧ Below W.heap.size W w' from fun W h => by
            rw [str_eta s _ hs.out]
            exact may_walk ⟨hL (55 + r), [47], []⟩ none 0 W ⟨FsAt.none_ _ _ _, by rw [hL, List.length_replicate]; omega, (show 1 ≤ 10000 by decide), (show sumF [] ≤ 10000 by decide)⟩ h (show 0 ≤ 1000 by decide))
          rw [may_nil, show hostB [97, 115] = true from rfl, pL_path, pL_len] at m1
          rw [may_nil, hL_host _ (by omega), show pathB [47] = true from rfl, hL, List.length_replicate] at m2
          have hz2 : ¬ 9223372036854775807 < 14 + t.size := by omega
          obtain ⟨N1, hN1⟩ : ∃ N : Nat, (if 55 + r ≤ 64 then 0 else 3) = N := ⟨_, rfl⟩
          obtain ⟨N2, hN2⟩ : ∃ N : Nat, (if 1009 + q + 11 ≤ 1024 then 0 else 4) = N := ⟨_, rfl⟩
          obtain ⟨N3, hN3⟩ : ∃ N : Nat, (if 1009 + q + 15 ≤ 1024 then 3 else 4) = N := ⟨_, rfl⟩
          obtain ⟨K1, hK1⟩ : ∃ b : Bool, decide (55 + (r : Int) ≤ 64) = b := ⟨_, rfl⟩
          obtain ⟨K2, hK2⟩ : ∃ b : Bool, decide ((1024 : Int) < 1020 + (q : Int)) = b := ⟨_, rfl⟩
          obtain ⟨K3, hK3⟩ : ∃ b : Bool, decide ((1024 : Int) < 1024 + (q : Int)) = b := ⟨_, rfl⟩
          rw [hN1] at d1
          rw [hN2] at d2
          rw [hN3] at d3
          have hM1 : (true && true && decide (8 + ([97, 115] : List UInt8).length + (1009 + q + 1) ≤ 1024)) = !K2 := by
            rw [← hK2, Bool.eq_iff_iff]; simp; omega
          have hM2 : (decide (55 + r ≤ 64) && true && decide (8 + (55 + r) + ([47] : List UInt8).length ≤ 1024)) = K1 := by
            rw [← hK1, Bool.eq_iff_iff]; simp; omega
          rw [hM1] at m1
          rw [hM2] at m2
          have hC1 : Hid (N1 = 0 ∧ K1 = true ∨ N1 = 3 ∧ K1 = false) := by
            show _ ∨ _
            rw [← hN1, ← hK1]
            by_cases h : r ≤ 9
            · left; rw [if_pos (by omega)]; simp; omega
            · right; rw [if_neg (by omega)]; simp; omega
          have hC2 : Hid (N2 = 0 ∧ N3 = 3 ∧ K2 = false ∧ K3 = false ∨ N2 = 0 ∧ N3 = 4 ∧ K2 = false ∧ K3 = true ∨ N2 = 4 ∧ N3 = 4 ∧ K2 = true ∧ K3 = true) := by
            show _ ∨ _ ∨ _
            rw [← hN2, ← hN3, ← hK2, ← hK3]
            obtain h | h | h : q = 0 ∨ 1 ≤ q ∧ q ≤ 4 ∨ 5 ≤ q := by omega
            · left; rw [if_pos (by omega), if_pos (by omega)]; simp; omega
            · right; left; rw [if_pos (by omega), if_neg (by omega)]; simp; omega
            · right; right; rw [if_neg (by omega), if_neg (by omega)]; simp; omega
          clear hN1 hN2 hN3 hM1 hM2 hn hk hlt hlt2
          go_wp2_with fail
          refine (d1.out _ (HD.out.below HB.out)).mono ?_
          rintro _ w2 ⟨u1, A1, k1, rfl, hbn⟩
          have hb2 := below_next HB.out hbn
          have HB2 := Lib.hid (hb2.alloc hb2.size (.cells (u1.arr A1 k1) 24))
          clear hbn hb2 d1
          go_wp2_with (refine wpList_store_ur w2 rfl _ _ rfl rfl rfl ?_)
          refine (d2.out _ (HD.out.below HB2.out)).mono ?_
          rintro _ w3 ⟨u2, A2, k2, rfl, hbn⟩
          have hb3 := below_next HB2.out hbn
          have HB3 := Lib.hid (hb3.alloc hb3.size (.cells (u2.arr A2 k2) 24))
          clear hbn hb3 d2
          go_wp2_with (refine wpList_store_ur w3 rfl _ _ rfl rfl rfl ?_)
          refine (d3.out _ (HD.out.below HB3.out)).mono ?_
          rintro _ w4 ⟨u3, A3, k3, rfl, hbn⟩
          have hb4 := below_next HB3.out hbn
          have HB4 := Lib.hid (hb4.alloc hb4.size (.cells (u3.arr A3 k3) 24))
          clear hbn hb4 d3 HB2 HB3 HB c1 c2 hs ht hts hsz hdl hz1 hz2
          rcases hC1.out with ⟨rfl, rfl⟩ | ⟨rfl, rfl⟩ <;> rcases hC2.out with ⟨rfl, rfl, rfl, rfl⟩ | ⟨rfl, rfl, rfl, rfl⟩ | ⟨rfl, rfl, rfl, rfl⟩
          all_goals
            clear hC1 hC2
            simp only [Bool.not_true, Bool.not_false] at m1
            go_wp2_with (refine wpList_store_ur w4 rfl _ _ rfl rfl rfl ?_)
            refine (m1.out _ (HD.out.below HB4.out)).mono ?_
            rintro _ w5 ⟨rfl, hbn⟩
            have HB5 := Lib.hid (below_next HB4.out hbn)
            clear hbn m1
            go_wp2_with fail
            refine (m2.out _ (HD.out.below HB5.out)).mono ?_
            rintro _ w6 ⟨rfl, hbn⟩
            have HB6 := Lib.hid (below_next HB5.out hbn)
            clear hbn m2
            go_wp2_with fail
            go_ret
            exact ⟨rfl, HB6.out⟩
end Go.Proofs.YtolfcpbcccbmmaaDoor

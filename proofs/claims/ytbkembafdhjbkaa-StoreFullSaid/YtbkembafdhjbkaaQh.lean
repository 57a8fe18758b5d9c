import Derived.Test.YtbkembafdhjbkaaQg
import Derived.Test.YtbkembafdhjbkaaIw
set_option linter.unusedVariables false
namespace Go.Proofs.Ytbkembafdhjbkaa
open Go.RowKit
def Rk (k key till : Int) : Rc := ⟨k, key, till, false, 0, 0, 0, 0, ⟨#[]⟩, ⟨#[]⟩, ⟨#[]⟩, ⟨#[]⟩, ⟨#[]⟩, ⟨#[]⟩, ⟨#[]⟩⟩
theorem Rk_arr (k key till : Int) : (Rk k key till).arr = #[.int .i64 k, .int .i64 key, .int .i64 till, .bool false, .int .i64 0, .int .i64 0, .int .i64 0, .int .i64 0, .string ⟨#[]⟩, .string ⟨#[]⟩, .string ⟨#[]⟩, .string ⟨#[]⟩, .string ⟨#[]⟩, .string ⟨#[]⟩, .string ⟨#[]⟩] := rfl
def rowsF (K i : Nat) : List Rc := (List.range i).map fun (j : Nat) => Rk (1 + (K : Int)) (1 + (j : Int)) (10 + (j : Int))
theorem rowsF_len (K i : Nat) : (rowsF K i).length = i := by simp [rowsF]
def mostN (K : Nat) : Nat := (mostI (1 + (K : Int))).toNat
theorem mostN_eq : ∀ K : Fin 6, mostI (1 + (K.val : Int)) = (mostN K.val : Int) ∧ 6 ≤ mostN K.val ∧ mostN K.val ≤ 12 := by decide +kernel
theorem full_step : ∀ K : Fin 6, ∀ i : Fin 12, i.val < mostN K.val → putC (rowsF K.val i.val) 0 (Rk (1 + (K.val : Int)) (1 + (i.val : Int)) (10 + (i.val : Int))) = 0 ∧ putL (rowsF K.val i.val) 0 (Rk (1 + (K.val : Int)) (1 + (i.val : Int)) (10 + (i.val : Int))) = rowsF K.val (i.val + 1) ∧ roomI (rowsF K.val (i.val + 1)) 0 (1 + (K.val : Int)) = (mostN K.val : Int) - 1 - (i.val : Int) := by decide +kernel
theorem full_end : ∀ K : Fin 6, putC (rowsF K.val (mostN K.val)) 0 (Rk (1 + (K.val : Int)) 99 50) = 16 ∧ putC (rowsF K.val (mostN K.val)) 0 (Rk (1 + (K.val : Int)) 1 50) = 6 ∧ putC (rowsF K.val (mostN K.val)) 10 (Rk (1 + (K.val : Int)) 1 50) = 0 ∧ putC (rowsF K.val (mostN K.val)) 0 (Rk (1 + (1 + (K.val : Int)) % 6) 99 50) = 0 ∧ roomI (rowsF K.val (mostN K.val)) 10 (1 + (K.val : Int)) = 1 := by decide +kernel
theorem full_kind (l : List Rc) (n : Int) : putC l n (Rk 7 99 50) = 2 := by
  rw [putC, if_pos]
  rfl
set_option maxHeartbeats 4000000 in
set_option maxRecDepth 100000 in
theorem storeFull_walk (kind n : Int) (w : World) (hk : -9223372036854775808 ≤ kind ∧ kind ≤ 9223372036854775807) (hn : -9223372036854775808 ≤ n ∧ n ≤ 9223372036854775807) :
    Calls Try.prog 3 #[.int .i64 kind, .int .i64 n] w fun e w' => e = .returned (.bool true) ∧ Below w.heap.size w w' := by
  obtain ⟨K, eK, hK⟩ : ∃ K : Nat, kind % 6 = (K : Int) ∧ K < 6 := ⟨(kind % 6).toNat, by omega, by omega⟩
  obtain ⟨O, eO, hO⟩ : ∃ O : Nat, (1 + (K : Int)) % 6 = (O : Int) ∧ O < 6 := ⟨((1 + (K : Int)) % 6).toNat, by omega, by omega⟩
  have cw1 := Lib.hid (fun w => within19_walk kind 6 w (by omega) (by omega) hk)
  have cw2 := Lib.hid (fun w => within19_walk (1 + (K : Int)) 6 w (by omega) (by omega) (by omega))
  have cw3 := Lib.hid (fun w => within19_walk n 10 w (by omega) (by omega) hn)
  have hfs := full_step ⟨K, hK⟩
  have hfe := full_end ⟨K, hK⟩
  have hmn := mostN_eq ⟨K, hK⟩
  simp only at hfs hfe hmn
  have cM := Lib.hid (most_walk (1 + (K : Int)))
  rw [hmn.1] at cM
  rw [eO] at hfe cw2
  rw [eK] at cw1
  obtain ⟨N, eN, hN⟩ : ∃ N : Nat, n % 10 = (N : Int) ∧ N < 10 := ⟨(n % 10).toNat, by omega, by omega⟩
  rw [eN] at cw3
  obtain ⟨M, hM⟩ : ∃ M, mostN K = M := ⟨_, rfl⟩
  rw [hM] at hfs hfe hmn cM
  obtain ⟨_, hM1, hM2⟩ := hmn
  have HFS := Lib.hid hfs
  have HFE := Lib.hid hfe
  have hM3 : ¬ (M : Int) < 1 := by omega
  have hb := Below.refl w.heap.size w
  clear eK eO eN hM hfs hfe
  go_enter Try.func3, Try.ntmps3
  go_wp2_with fail
  refine (known19_walk _).mono ?_
  rintro _ w1 ⟨rfl, hbn⟩
  replace hb := below_next hb hbn
  clear hbn
  go_wp2_with fail
  refine (cw1.out _).mono ?_
  rintro _ w1 ⟨rfl, rfl⟩
  go_wp2_with fail
  refine (cw2.out _).mono ?_
  rintro _ w1 ⟨rfl, rfl⟩
  go_wp2_with fail
  refine (cM.out _).mono ?_
  rintro _ w1 ⟨rfl, hbn⟩
  replace hb := below_next hb hbn
  clear hbn
  go_wp2_with fail
  go_loopw [7, 9] (fun sv nv wr => ∃ (i : Nat) (A : Option Addr) (c : Nat), i ≤ M ∧ nv = .int .i64 i ∧ sv = .slice A i c ∧ Hid (RecsAt wr A c (rowsF K i)) ∧ Below w.heap.size w wr) (fun _ nv _ => M - (intOf nv).toNat)
  case atStart => exact ⟨0, none, 0, by omega, rfl, rfl, recsAt_nil _, hb⟩
  case round =>
    clear hb
    obtain ⟨i, A, c, hi, rfl, rfl, hr, hb⟩ := hrel
    have hrl := rowsF_len K i
    by_cases hlt : i < M
    · obtain ⟨f1, f2, f3⟩ := HFS.out ⟨i, by omega⟩ hlt
      simp only at f1 f2 f3
      have cP := Lib.hid (put_walk (rowsF K i) A c 0 (Rk (1 + (K : Int)) (1 + (i : Int)) (10 + (i : Int))) wr hr.out (by omega))
      rw [f1, f2, Rk_arr, hrl] at cP
      have F3 := Lib.hid f3
      clear f1 f2 f3 hrl
      go_wp2_with fail
      refine cP.out.mono ?_
      rintro _ w2 ⟨v, rfl, hown, hbn⟩
      have hrl := rowsF_len K (i + 1)
      rw [hrl] at hown
      obtain ⟨A2, c2, rfl, hr2⟩ := RecsAt.own (rs := rowsF K (i + 1)) (by rw [hrl]; exact hown) (by omega)
      have cR := Lib.hid (room_walk (rowsF K (i + 1)) A2 c2 0 (1 + (K : Int)) w2 hr2)
      rw [F3.out, hrl] at cR
      replace hb := below_next hb hbn
      have HR2 := Lib.hid hr2
      clear hbn hown hr2 cP
      go_wp2_with fail
      refine cR.out.mono ?_
      rintro _ w3 ⟨rfl, hbn⟩
      have HR3 := Lib.hid (HR2.out.below hbn)
      replace hb := below_next hb hbn
      clear hbn cR
      go_wp2_with fail
      exact ⟨⟨i + 1, A2, c2, by omega, by go_num, rfl, HR3, hb⟩, by simp [intOf]; omega⟩
    · obtain rfl : i = M := by omega
      have hP : ∀ (now : Int) (r : Rc) (code : Int), putC (rowsF K i) now r = code → ∀ w', Hid (RecsAt w' A c (rowsF K i)) → Calls Try.prog 10 #[.slice A i c, .int .i64 now, .agg r.arr] w' fun e w'' => ∃ v, e = .returned (.tuple #[v, .int .i64 code]) ∧ Below w'.heap.size w' w'' := by
        intro now r code hcode w' h
        have := put_walk (rowsF K i) A c now r w' h.out (by omega)
        rw [hcode, hrl] at this
        refine this.mono ?_
        rintro _ w'' ⟨v, rfl, _, hb⟩
        exact ⟨v, rfl, hb⟩
      obtain ⟨g1, g2, g3, g4, g5⟩ := HFE.out
      have c1 := Lib.hid (hP 0 _ _ g1)
      have c2 := Lib.hid (hP 0 _ _ g2)
      have c3 := Lib.hid (hP 10 _ _ g3)
      have c4 := Lib.hid (hP 0 _ _ g4)
      have c5 := Lib.hid (hP (N : Int) _ _ (full_kind (rowsF K i) N))
      have cR : Hid (∀ w', Hid (RecsAt w' A c (rowsF K i)) → Calls Try.prog 11 #[.slice A i c, .int .i64 10, .int .i64 (1 + (K : Int))] w' fun e w'' => e = .returned (.int .i64 1) ∧ Below w'.heap.size w' w'') := by
        show ∀ w', _
        intro w' h
        have := room_walk (rowsF K i) A c 10 (1 + (K : Int)) w' h.out
        rwa [g5, hrl] at this
      rw [Rk_arr] at c1 c2 c3 c4 c5
      clear hP g1 g2 g3 g4 g5 HFS HFE hrl
      go_wp2_with fail
      refine (c1.out _ hr).mono ?_
      rintro _ w2 ⟨v1, rfl, hbn⟩
      have hr2 := Lib.hid (hr.out.below hbn)
      replace hb := below_next hb hbn
      clear hbn hr
      go_wp2_with fail
      refine (c2.out _ hr2).mono ?_
      rintro _ w3 ⟨v2, rfl, hbn⟩
      have hr3 := Lib.hid (hr2.out.below hbn)
      replace hb := below_next hb hbn
      clear hbn hr2
      go_wp2_with fail
      refine (c3.out _ hr3).mono ?_
      rintro _ w4 ⟨v3, rfl, hbn⟩
      have hr4 := Lib.hid (hr3.out.below hbn)
      replace hb := below_next hb hbn
      clear hbn hr3
      go_wp2_with fail
      refine (c4.out _ hr4).mono ?_
      rintro _ w5 ⟨v4, rfl, hbn⟩
      have hr5 := Lib.hid (hr4.out.below hbn)
      replace hb := below_next hb hbn
      clear hbn hr4
      go_wp2_with fail
      refine (cw3.out _).mono ?_
      rintro _ w6 ⟨rfl, rfl⟩
      go_wp2_with fail
      refine (c5.out _ hr5).mono ?_
      rintro _ w7 ⟨v5, rfl, hbn⟩
      have hr7 := Lib.hid (hr5.out.below hbn)
      replace hb := below_next hb hbn
      clear hbn hr5
      go_wp2_with fail
      refine (cR.out _ hr7).mono ?_
      rintro _ w8 ⟨rfl, hbn⟩
      replace hb := below_next hb hbn
      go_wp2_with fail
      go_ret
      exact ⟨rfl, hb⟩
end Go.Proofs.Ytbkembafdhjbkaa

/- uri.Split, uri.cut. Condition of Split: the table of digits is laid. -/
import Derived.Test.YtolfcpbcccbmmaaGreatDoorUh
set_option linter.unusedVariables false
set_option linter.unusedSimpArgs false
set_option maxRecDepth 20000
namespace Go.Proofs.YtolfcpbcccbmmaaGreatDoor
open Go.RowKit Pc
/-- what a target comes back as -/
def SplitU (l : List UInt8) (w : World) (e : Ending) (w' : World) : Prop :=
  ∃ v, e = .returned (.tuple #[.string ⟨(splitE l).2.1.toArray⟩, v, .int .i64 (splitE l).1]) ∧ w'.ownsRow w.heap.size 57 2 v (splitE l).2.2.length (fCells (splitE l).2.2) ∧ Below w.heap.size w w'
theorem SplitU.err {l : List UInt8} {w w' : World} (n : Nat) (hn : splitE l = (n, [], [])) (hb : Below w.heap.size w w') : SplitU l w (.returned (.tuple #[.string ⟨#[]⟩, .slice none 0 0, .int .i64 n])) w' := by
  refine ⟨.slice none 0 0, by rw [hn], ?_, hb⟩
  rw [hn]
  exact World.ownsRow_nil _ _ _ _
set_option maxHeartbeats 8000000 in
theorem usplit_walk (s : ByteArray) (l : List UInt8) (hs : s.data.toList = l) (w : World) (hd : DigOk w) (hm : s.size ≤ 1000000) :
    Calls Tryz.prog 8 #[.string s] w (SplitU l w) := by
  have hsz : l.length = s.size := by rw [← hs, Lib.size_eq]
  have HD := Lib.hid hd
  clear hd
  by_cases h1 : 1024 < s.size
  · have hv : Hid (splitE l = (4, [], [])) := if_pos (by omega)
    have hdd : decide ((1024 : Int) < (s.size : Int)) = true := by simp; omega
    clear hs
    go_enter Tryz.func8, Tryz.ntmps8
    go_wp2_with fail
    go_ret3
    exact SplitU.err 4 hv.out (Below.refl _ _)
  have hdd : decide ((1024 : Int) < (s.size : Int)) = false := by simp; omega
  have hv : splitE l = restE (cutA l (cutP 63 l)) (cutB (cutP 63 l)) (cutP 63 l).isSome := if_neg (by omega)
  have cc := Lib.hid (fun W => scut_walk s l hs 63 W hm)
  have hla : (cutA l (cutP 63 l)).length ≤ l.length ∧ (cutB (cutP 63 l)).length ≤ l.length := by
    cases hp : cutP 63 l with
    | none => exact ⟨Nat.le_refl _, Nat.zero_le _⟩
    | some p => exact cutP_len hp
  have hnb : (cutP 63 l).isSome = false → cutB (cutP 63 l) = [] := by
    cases hp : cutP 63 l with
    | none => exact fun _ => rfl
    | some p => intro h; cases h
  rw [show cutV l (cutP 63 l) = .tuple #[.string ⟨(cutA l (cutP 63 l)).toArray⟩, .string ⟨(cutB (cutP 63 l)).toArray⟩, .bool (cutP 63 l).isSome] from rfl] at cc
  generalize cutA l (cutP 63 l) = a at cc hv hla
  generalize cutB (cutP 63 l) = b at cc hv hla hnb
  generalize (cutP 63 l).isSome = q at cc hv hnb
  obtain ⟨hla, hlb⟩ := hla
  have cp := Lib.hid (show ∀ W, Calls Tryz.prog 26 #[.agg #[.string ⟨#[]⟩, .string ⟨a.toArray⟩]] W fun e w' => e = .returned (.bool (pathB a)) ∧ Below W.heap.size W w' from fun W => pathed_walk [] a W (by omega))
  have cf := Lib.hid (fun W h => parse_walk ⟨b.toArray⟩ b (by simp) W h (by rw [size_mks]; omega))
  cases hp : pathB a with
  | false =>
    have HV : Hid (splitE l = (3, [], [])) := by show _ = _; rw [hv, restE, if_pos (.inl hp)]
    rw [hp] at cp
    clear hp hv hs hnb
    go_enter Tryz.func8, Tryz.ntmps8
    go_wp2_with fail
    refine (cc.out _).mono ?_
    rintro _ w1 ⟨rfl, n1, rfl⟩
    go_wp2_with fail
    refine (cp.out _).mono ?_
    rintro _ w2 ⟨rfl, hbn⟩
    have hb2 := below_next (below_drewN (Below.refl w.heap.size w) n1) hbn
    go_wp2_with fail
    go_ret3
    exact SplitU.err 3 HV.out hb2
  | true =>
    rw [hp] at cp
    by_cases hq : q = true ∧ b = []
    · have HV : Hid (splitE l = (3, [], [])) := by show _ = _; rw [hv, restE, if_pos (.inr hq)]
      obtain ⟨rfl, rfl⟩ := hq
      clear hp hv hs hnb
      go_enter Tryz.func8, Tryz.ntmps8
      go_wp2_with fail
      refine (cc.out _).mono ?_
      rintro _ w1 ⟨rfl, n1, rfl⟩
      go_wp2_with fail
      refine (cp.out _).mono ?_
      rintro _ w2 ⟨rfl, hbn⟩
      have hb2 := below_next (below_drewN (Below.refl w.heap.size w) n1) hbn
      go_wp2_with fail
      go_ret3
      exact SplitU.err 3 HV.out hb2
    · have hv2 : splitE l = if (formE b).1 = 0 then (0, a, (formE b).2) else ((formE b).1, [], []) := by
        rw [hv, restE, if_neg]
        rintro (h | h)
        · rw [hp] at h; cases h
        · exact hq h
      have hq2 : q = false ∨ q = true ∧ b.isEmpty = false := by
        cases q with
        | false => exact .inl rfl
        | true =>
          right
          refine ⟨rfl, ?_⟩
          cases b with
          | nil => exact absurd ⟨rfl, rfl⟩ hq
          | cons _ _ => rfl
      have HV := Lib.hid hv2
      have HE : Hid ((formE b).1 ≠ 0 → (formE b).2 = []) := formE_err
      clear hp hv hs hv2 hq hnb
      by_cases h0 : (formE b).1 = 0
      · have HV0 : Hid (splitE l = (0, a, (formE b).2)) := by show _ = _; rw [HV.out, if_pos h0]
        rcases hq2 with rfl | ⟨rfl, hbe⟩
        all_goals
          go_enter Tryz.func8, Tryz.ntmps8
          go_wp2_with fail
          refine (cc.out _).mono ?_
          rintro _ w1 ⟨rfl, n1, rfl⟩
          go_wp2_with fail
          refine (cp.out _).mono ?_
          rintro _ w2 ⟨rfl, hbn⟩
          have hb2 := below_next (below_drewN (Below.refl w.heap.size w) n1) hbn
          clear hbn
          go_wp2_with fail
          refine (cf.out _ (HD.out.below hb2)).mono ?_
          rintro _ w3 ⟨v, rfl, hown, hbn⟩
          have HB3 := Lib.hid (below_next hb2 hbn)
          have HO := Lib.hid hown
          have hsw := hb2.size
          rw [h0]
          clear hbn hown
          go_wp2_with fail
          go_ret3
          refine ⟨v, by rw [HV0.out]; rfl, ?_, HB3.out⟩
          rw [HV0.out]
          exact World.ownsRow.mono HO.out hsw
      · have HV0 : Hid (splitE l = ((formE b).1, [], [])) := by show _ = _; rw [HV.out, if_neg h0]
        have h0a : (((formE b).1 : Int) != 0) = true := by rw [bne_iff_ne]; omega
        have h0b : (((formE b).1 : Int) == 0) = false := by rw [beq_eq_false_iff_ne]; omega
        have h0c : ¬ ((formE b).1 : Int) = 0 := by omega
        clear h0
        rcases hq2 with rfl | ⟨rfl, hbe⟩
        all_goals
          go_enter Tryz.func8, Tryz.ntmps8
          go_wp2_with fail
          refine (cc.out _).mono ?_
          rintro _ w1 ⟨rfl, n1, rfl⟩
          go_wp2_with fail
          refine (cp.out _).mono ?_
          rintro _ w2 ⟨rfl, hbn⟩
          have hb2 := below_next (below_drewN (Below.refl w.heap.size w) n1) hbn
          clear hbn
          go_wp2_with fail
          refine (cf.out _ (HD.out.below hb2)).mono ?_
          rintro _ w3 ⟨v, rfl, _, hbn⟩
          have HB3 := Lib.hid (below_next hb2 hbn)
          clear hbn
          go_wp2_with fail
          go_ret3
          exact SplitU.err _ HV0.out HB3.out
end Go.Proofs.YtolfcpbcccbmmaaGreatDoor

/- countersignref11.Split, countersignref11.Parse. No condition of its own. -/
import Derived.Test.YtolfcpbcccbmmaaGreatDoorUk
set_option linter.unusedVariables false
set_option linter.unusedSimpArgs false
set_option maxRecDepth 20000
namespace Go.Proofs.YtolfcpbcccbmmaaGreatDoor
open Go.RowKit Pc
set_option maxHeartbeats 8000000 in
theorem rsplit_walk (s : ByteArray) (l : List UInt8) (hs : s.data.toList = l) (w : World) (hm : s.size ≤ 1000000) :
    Calls Tryz.prog 9 #[.string s] w (SplitU l w) := by
  have hsz : l.length = s.size := by rw [← hs, Lib.size_eq]
  by_cases h1 : 1024 < s.size
  · have hv : Hid (splitE l = (4, [], [])) := if_pos (by omega)
    have hdd : decide ((1024 : Int) < (s.size : Int)) = true := by simp; omega
    clear hs
    go_enter Tryz.func9, Tryz.ntmps9
    go_wp2_with fail
    go_ret3
    exact SplitU.err 4 hv.out (Below.refl _ _)
  have hdd : decide ((1024 : Int) < (s.size : Int)) = false := by simp; omega
  have hv : splitE l = restE (cutA l (cutP 63 l)) (cutB (cutP 63 l)) (cutP 63 l).isSome := if_neg (by omega)
  have cc := Lib.hid (fun W => rcut_walk s l hs 63 W hm)
  have hla : (cutA l (cutP 63 l)).length ≤ l.length ∧ (cutB (cutP 63 l)).length ≤ l.length := by
    cases hp : cutP 63 l with
    | none => exact ⟨Nat.le_refl _, Nat.zero_le _⟩
    | some p => exact cutP_len hp
  have hnb : (cutP 63 l).isSome = false → cutB (cutP 63 l) = [] := by
    cases hp : cutP 63 l with
    | none => exact fun _ => rfl
    | some p => intro h; cases h
  rw [show cutV l (cutP 63 l) = .tuple #[.string ⟨(cutA l (cutP 63 l)).toArray⟩, .string ⟨(cutB (cutP 63 l)).toArray⟩, .bool (cutP 63 l).isSome] from rfl] at cc
  generalize cutA l (cutP 63 l) = a at cc hv hla
  generalize cutB (cutP 63 l) = b at cc hv hla hnb
  generalize (cutP 63 l).isSome = q at cc hv hnb
  obtain ⟨hla, hlb⟩ := hla
  have cp := Lib.hid (show ∀ W, Calls Tryz.prog 28 #[.string ⟨a.toArray⟩] W fun e w' => e = .returned (.bool (pathB a)) ∧ W = w' from fun W => rpath_walk ⟨a.toArray⟩ a (by simp) W (by rw [size_mks]; omega))
  have cf := Lib.hid (fun W => rparse_walk ⟨b.toArray⟩ b (by simp) W (by rw [size_mks]; omega))
  cases hp : pathB a with
  | false =>
    have HV : Hid (splitE l = (3, [], [])) := by show _ = _; rw [hv, restE, if_pos (.inl hp)]
    rw [hp] at cp
    clear hp hv hs hnb
    go_enter Tryz.func9, Tryz.ntmps9
    go_wp2_with fail
    refine (cc.out _).mono ?_
    rintro _ w1 ⟨rfl, n1, rfl⟩
    have hb2 := below_drewN (Below.refl w.heap.size w) n1
    go_wp2_with fail
    refine (cp.out _).mono ?_
    rintro _ w2 ⟨rfl, rfl⟩
    go_wp2_with fail
    go_ret3
    exact SplitU.err 3 HV.out hb2
  | true =>
    rw [hp] at cp
    by_cases hq : q = true ∧ b = []
    · have HV : Hid (splitE l = (3, [], [])) := by show _ = _; rw [hv, restE, if_pos (.inr hq)]
      obtain ⟨rfl, rfl⟩ := hq
      clear hp hv hs hnb
      go_enter Tryz.func9, Tryz.ntmps9
      go_wp2_with fail
      refine (cc.out _).mono ?_
      rintro _ w1 ⟨rfl, n1, rfl⟩
      have hb2 := below_drewN (Below.refl w.heap.size w) n1
      go_wp2_with fail
      refine (cp.out _).mono ?_
      rintro _ w2 ⟨rfl, rfl⟩
      go_wp2_with fail
      go_ret3
      exact SplitU.err 3 HV.out hb2
    · have hv2 : splitE l = if (formE b).1 = 0 then (0, a, (formE b).2) else ((formE b).1, [], []) := by
        rw [hv, restE, if_neg]
        rintro (h | h)
        · rw [hp] at h; cases h
        · exact hq h
      have hq2 : q = false ∨ q = true ∧ b.isEmpty = false := by
        cases q with
        | false => exact .inl rfl
        | true =>
          right
          refine ⟨rfl, ?_⟩
          cases b with
          | nil => exact absurd ⟨rfl, rfl⟩ hq
          | cons _ _ => rfl
      have HV := Lib.hid hv2
      have HE : Hid ((formE b).1 ≠ 0 → (formE b).2 = []) := formE_err
      clear hp hv hs hv2 hq hnb
      by_cases h0 : (formE b).1 = 0
      · have HV0 : Hid (splitE l = (0, a, (formE b).2)) := by show _ = _; rw [HV.out, if_pos h0]
        rcases hq2 with rfl | ⟨rfl, hbe⟩
        all_goals
          go_enter Tryz.func9, Tryz.ntmps9
          go_wp2_with fail
          refine (cc.out _).mono ?_
          rintro _ w1 ⟨rfl, n1, rfl⟩
          have hb2 := below_drewN (Below.refl w.heap.size w) n1
          go_wp2_with fail
          refine (cp.out _).mono ?_
          rintro _ w2 ⟨rfl, rfl⟩
          go_wp2_with fail
          refine (cf.out _).mono ?_
          rintro _ w3 ⟨v, rfl, hown, hbn⟩
          have HB3 := Lib.hid (below_next hb2 hbn)
          have HO := Lib.hid hown
          have hsw := hb2.size
          rw [h0]
          clear hbn hown
          go_wp2_with fail
          go_ret3
          refine ⟨v, by rw [HV0.out]; rfl, ?_, HB3.out⟩
          rw [HV0.out]
          exact World.ownsRow.mono HO.out hsw
      · have HV0 : Hid (splitE l = ((formE b).1, [], [])) := by show _ = _; rw [HV.out, if_neg h0]
        have h0a : (((formE b).1 : Int) != 0) = true := by rw [bne_iff_ne]; omega
        have h0b : (((formE b).1 : Int) == 0) = false := by rw [beq_eq_false_iff_ne]; omega
        have h0c : ¬ ((formE b).1 : Int) = 0 := by omega
        clear h0
        rcases hq2 with rfl | ⟨rfl, hbe⟩
        all_goals
          go_enter Tryz.func9, Tryz.ntmps9
          go_wp2_with fail
          refine (cc.out _).mono ?_
          rintro _ w1 ⟨rfl, n1, rfl⟩
          have hb2 := below_drewN (Below.refl w.heap.size w) n1
          go_wp2_with fail
          refine (cp.out _).mono ?_
          rintro _ w2 ⟨rfl, rfl⟩
          go_wp2_with fail
          refine (cf.out _).mono ?_
          rintro _ w3 ⟨v, rfl, _, hbn⟩
          have HB3 := Lib.hid (below_next hb2 hbn)
          clear hbn
          go_wp2_with fail
          go_ret3
          exact SplitU.err _ HV0.out HB3.out
/-- what the first eight bytes say -/
theorem eight_eq (s : ByteArray) (l : List UInt8) (hs : s.data.toList = l) : ((s.extract 0 8).toList == [104, 116, 116, 112, 115, 58, 47, 47]) = decide (l.take 8 = schemeL) := by
  have hd1 : (s.extract 0 8).data.toList = l.take 8 := by rw [Lib.extract_data, hs]; simp
  have hst1 := str_eta _ _ hd1
  rw [Bool.eq_iff_iff, beq_iff_eq, decide_eq_true_eq, hst1]
  have k := tl_injL (a := l.take 8) (b := schemeL)
  have e0 : (⟨schemeL.toArray⟩ : ByteArray).toList = [104, 116, 116, 112, 115, 58, 47, 47] := by decide +kernel
  rw [e0] at k
  exact ⟨k, fun e => by rw [e, e0]⟩
set_option maxHeartbeats 16000000 in
theorem ruparse_walk (s : ByteArray) (l : List UInt8) (hs : s.data.toList = l) (w : World) (hm : s.size ≤ 1000000) :
    Calls Tryz.prog 7 #[.string s] w (UriR l w) := by
  have hsz : l.length = s.size := by rw [← hs, Lib.size_eq]
  have HB0 := Lib.hid ((Below.refl w.heap.size w).alloc (Nat.le_refl _) (.cells ((Ur.mk [] [] []).arr none 0) 28))
  have HK0 := Lib.hid (Blk.new w 28 ((Ur.mk [] [] []).arr none 0))
  have hz : (#[.string ⟨#[]⟩, .string ⟨#[]⟩, .slice none 0 0] : Array Value) = (Ur.mk [] [] []).arr none 0 := rfl
  by_cases h1 : 1024 < s.size
  · have hv : Hid (uriE l = (4, ⟨[], [], []⟩)) := if_pos (by omega)
    have hdd : decide ((1024 : Int) < (s.size : Int)) = true := by simp; omega
    clear hs
    go_enter Tryz.func7, Tryz.ntmps7
    go_wp2_with (refine wpList_store_blk rfl 28 _ _ rfl w.heap.size ((Ur.mk [] [] []).arr none 0) ((Ur.mk [] [] []).arr none 0) _ rfl rfl HK0.out rfl ur_size (ones3 _ _ _) ?_)
    refine bodyPost_ret (results_ur_t Tryz.results7 _ _ w.heap.size _ _ _ rfl HK0.out.setRow) rfl ?_
    exact UriR.err 4 hv.out (below_setRow HB0.out (Nat.le_refl _) _)
  have hdd : decide ((1024 : Int) < (s.size : Int)) = false := by simp; omega
  by_cases h8 : l.length < 8
  · have hv : Hid (uriE l = (3, ⟨[], [], []⟩)) := by
      show _ = _
      rw [uriE, if_neg (by omega), if_neg]
      intro e
      have := congrArg List.length e
      rw [List.length_take] at this
      have h9 : schemeL.length = 8 := rfl
      omega
    have hd8 : decide ((s.size : Int) < (8 : Int)) = true := by simp; omega
    clear hs
    go_enter Tryz.func7, Tryz.ntmps7
    go_wp2_with (refine wpList_store_blk rfl 28 _ _ rfl w.heap.size ((Ur.mk [] [] []).arr none 0) ((Ur.mk [] [] []).arr none 0) _ rfl rfl HK0.out rfl ur_size (ones3 _ _ _) ?_)
    refine bodyPost_ret (results_ur_t Tryz.results7 _ _ w.heap.size _ _ _ rfl HK0.out.setRow) rfl ?_
    exact UriR.err 3 hv.out (below_setRow HB0.out (Nat.le_refl _) _)
  have hd8 : decide ((s.size : Int) < (8 : Int)) = false := by simp; omega
  have hE8 := eight_eq s l hs
  by_cases ht : l.take 8 = schemeL
  case neg =>
    have hv : Hid (uriE l = (3, ⟨[], [], []⟩)) := by
      show _ = _
      rw [uriE, if_neg (by omega), if_neg ht]
    rw [decide_eq_false ht] at hE8
    clear hs ht
    go_enter Tryz.func7, Tryz.ntmps7
    go_wp2_with (refine wpList_store_blk rfl 28 _ _ rfl w.heap.size ((Ur.mk [] [] []).arr none 0) ((Ur.mk [] [] []).arr none 0) _ rfl rfl HK0.out rfl ur_size (ones3 _ _ _) ?_)
    refine bodyPost_ret (results_ur_t Tryz.results7 _ _ w.heap.size _ _ _ rfl HK0.out.setRow) rfl ?_
    exact UriR.err 3 hv.out (below_setRow HB0.out (Nat.le_refl _) _)
  rw [decide_eq_true ht] at hE8
  have hd2 : (s.extract 8 s.size).data.toList = l.drop 8 := by rw [Lib.extract_to_end, hs]
  have hst2 := Lib.hid (str_eta _ _ hd2)
  have hrl : (l.drop 8).length + 8 ≤ 1000000 := by rw [List.length_drop]; omega
  obtain ⟨r, hr⟩ : ∃ r, l.drop 8 = r := ⟨_, rfl⟩
  rw [hr] at hrl hst2
  have cc := Lib.hid (fun W => rcut_walk (s.extract 8 s.size) r (by rw [hd2, hr]) 47 W (by rw [hst2.out, size_mks]; omega))
  have hE : uriE l = match cutP 47 r with
    | none => (3, ⟨[], [], []⟩)
    | some p => if hostB p.1 = false then (3, ⟨[], [], []⟩) else
        if (splitE (47 :: p.2)).1 = 0 then (0, ⟨p.1, (splitE (47 :: p.2)).2.1, (splitE (47 :: p.2)).2.2⟩) else ((splitE (47 :: p.2)).1, ⟨[], [], []⟩) := by
    rw [uriE, if_neg (by omega), if_pos ht, hr]
    cases cutP 47 r <;> rfl
  rw [show cutV r (cutP 47 r) = .tuple #[.string ⟨(cutA r (cutP 47 r)).toArray⟩, .string ⟨(cutB (cutP 47 r)).toArray⟩, .bool (cutP 47 r).isSome] from rfl] at cc
  have hla : (cutA r (cutP 47 r)).length ≤ r.length ∧ (cutB (cutP 47 r)).length ≤ r.length := by
    cases hp : cutP 47 r with
    | none => exact ⟨Nat.le_refl _, Nat.zero_le _⟩
    | some p => exact cutP_len hp
  cases hp : cutP 47 r with
  | none =>
    rw [hp] at hE cc
    have HV := Lib.hid hE
    rw [show (none : Option (List UInt8 × List UInt8)).isSome = false from rfl] at cc
    clear hs ht hd2 hst2 hE hp hla hr
    go_enter Tryz.func7, Tryz.ntmps7
    go_wp2_with fail
    refine (cc.out _).mono ?_
    rintro _ w1 ⟨rfl, n1, rfl⟩
    have HBd := Lib.hid (below_drewN HB0.out n1)
    have HKd := Lib.hid (HK0.out.drewN n1)
    go_wp2_with (refine wpList_store_blk rfl 28 _ _ rfl w.heap.size ((Ur.mk [] [] []).arr none 0) ((Ur.mk [] [] []).arr none 0) _ rfl rfl HKd.out rfl ur_size (ones3 _ _ _) ?_)
    refine bodyPost_ret (results_ur_t Tryz.results7 _ _ w.heap.size _ _ _ rfl HKd.out.setRow) rfl ?_
    exact UriR.err 3 HV.out (below_setRow HBd.out (Nat.le_refl _) _)
  | some p =>
    obtain ⟨a, b⟩ := p
    rw [hp] at hE cc hla
    simp only [cutA, cutB] at hla cc
    simp only at hE
    rw [show (some (a, b) : Option (List UInt8 × List UInt8)).isSome = true from rfl] at cc
    obtain ⟨hla, hlb⟩ := hla
    have ch := Lib.hid (fun W => rhost_walk ⟨a.toArray⟩ a (by simp) W (by rw [size_mks]; omega))
    cases hh : hostB a with
    | false =>
      rw [hh] at ch hE
      rw [if_pos rfl] at hE
      have HV := Lib.hid hE
      clear hs ht hd2 hst2 hE hp hr hh
      go_enter Tryz.func7, Tryz.ntmps7
      go_wp2_with fail
      refine (cc.out _).mono ?_
      rintro _ w1 ⟨rfl, n1, rfl⟩
      have HBd := Lib.hid (below_drewN HB0.out n1)
      have HKd := Lib.hid (HK0.out.drewN n1)
      go_wp2_with fail
      refine (ch.out _).mono ?_
      rintro _ w2 ⟨rfl, rfl⟩
      go_wp2_with (refine wpList_store_blk rfl 28 _ _ rfl w.heap.size ((Ur.mk [] [] []).arr none 0) ((Ur.mk [] [] []).arr none 0) _ rfl rfl HKd.out rfl ur_size (ones3 _ _ _) ?_)
      refine bodyPost_ret (results_ur_t Tryz.results7 _ _ w.heap.size _ _ _ rfl HKd.out.setRow) rfl ?_
      exact UriR.err 3 HV.out (below_setRow HBd.out (Nat.le_refl _) _)
    | true =>
      rw [hh] at ch hE
      rw [if_neg (by simp)] at hE
      have hapd : (⟨#[47]⟩ ++ ⟨b.toArray⟩ : ByteArray).data.toList = 47 :: b := by simp [ByteArray.data_append]
      have cs := Lib.hid (fun W => rsplit_walk (⟨#[47]⟩ ++ ⟨b.toArray⟩) (47 :: b) hapd W (by rw [Lib.size_eq, hapd, List.length_cons]; omega))
      have HL : Hid ((splitE (47 :: b)).2.2.length ≤ 1000000) := splitE_len _
      have HV0 := Lib.hid hE
      clear hs ht hd2 hst2 hE hp hr hh hapd
      unfold SplitU at cs
      generalize splitE (47 :: b) = z at cs HL HV0
      obtain ⟨m, x, y⟩ := z
      simp only at cs HL HV0
      by_cases h0 : m = 0
      · subst h0
        have HV : Hid (uriE l = (0, ⟨a, x, y⟩)) := by show _ = _; rw [HV0.out, if_pos rfl]
        clear HV0
        go_enter Tryz.func7, Tryz.ntmps7
        go_wp2_with fail
        refine (cc.out _).mono ?_
        rintro _ w1 ⟨rfl, n1, rfl⟩
        have HBd := Lib.hid (below_drewN HB0.out n1)
        have HKd := Lib.hid (HK0.out.drewN n1)
        go_wp2_with fail
        refine (ch.out _).mono ?_
        rintro _ w2 ⟨rfl, rfl⟩
        go_wp2_with fail
        refine (cs.out _).mono ?_
        rintro _ w3 ⟨v, rfl, hown, hbn⟩
        have HB3 := Lib.hid (below_next HBd.out hbn)
        have HK3 := Lib.hid (HKd.out.below hbn HKd.out.lt)
        obtain ⟨A4, c4, rfl, hf4⟩ := FsAt.own hown HL.out
        have HO := Lib.hid hown
        clear hbn hown hf4
        go_wp2_with (refine wpList_store_blk rfl 28 _ _ rfl w.heap.size ((Ur.mk [] [] []).arr none 0) ((Ur.mk a x y).arr A4 c4) _ rfl rfl HK3.out rfl ur_size (ones3 _ _ _) ?_)
        refine bodyPost_ret (results_ur_t Tryz.results7 _ _ w.heap.size _ _ _ rfl HK3.out.setRow) rfl ?_
        refine ⟨A4, c4, by rw [HV.out]; rfl, ?_, below_setRow HB3.out (Nat.le_refl _) _⟩
        rw [HV.out]
        obtain ⟨A5, c5, e5, hf5⟩ := FsAt.own (World.ownsRow.kept HO.out (setRow_only w3 w.heap.size ((Ur.mk a x y).arr A4 c4)) (.inr (fun e => by have := (World.ownsRow.lt HO.out _ e).1; have := HKd.out.lt; omega))) HL.out
        injection e5 with eA _ ec
        subst eA ec
        exact hf5
      · have HV : Hid (uriE l = (m, ⟨[], [], []⟩)) := by show _ = _; rw [HV0.out, if_neg h0]
        have h0a : ((m : Int) != 0) = true := by rw [bne_iff_ne]; omega
        have h0b : ((m : Int) == 0) = false := by rw [beq_eq_false_iff_ne]; omega
        have h0c : ¬ (m : Int) = 0 := by omega
        clear HV0 h0
        go_enter Tryz.func7, Tryz.ntmps7
        go_wp2_with fail
        refine (cc.out _).mono ?_
        rintro _ w1 ⟨rfl, n1, rfl⟩
        have HBd := Lib.hid (below_drewN HB0.out n1)
        have HKd := Lib.hid (HK0.out.drewN n1)
        go_wp2_with fail
        refine (ch.out _).mono ?_
        rintro _ w2 ⟨rfl, rfl⟩
        go_wp2_with fail
        refine (cs.out _).mono ?_
        rintro _ w3 ⟨v, rfl, hown, hbn⟩
        have HB3 := Lib.hid (below_next HBd.out hbn)
        have HK3 := Lib.hid (HKd.out.below hbn HKd.out.lt)
        clear hbn hown
        go_wp2_with (refine wpList_store_blk rfl 28 _ _ rfl w.heap.size ((Ur.mk [] [] []).arr none 0) ((Ur.mk [] [] []).arr none 0) _ rfl rfl HK3.out rfl ur_size (ones3 _ _ _) ?_)
        refine bodyPost_ret (results_ur_t Tryz.results7 _ _ w.heap.size _ _ _ rfl HK3.out.setRow) rfl ?_
        exact UriR.err m HV.out (below_setRow HB3.out (Nat.le_refl _) _)
end Go.Proofs.YtolfcpbcccbmmaaGreatDoor

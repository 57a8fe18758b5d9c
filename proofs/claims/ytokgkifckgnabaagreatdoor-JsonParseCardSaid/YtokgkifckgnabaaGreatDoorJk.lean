/- json.named: are an object's names as they must be? Condition: small values. -/
import Derived.Test.YtokgkifckgnabaaGreatDoorM3
import Derived.Test.YtokgkifckgnabaaGreatDoorMp
import Derived.Test.YtokgkifckgnabaaGreatDoorM1
import Derived.Test.YtokgkifckgnabaaGreatDoorM2
set_option linter.unusedVariables false
set_option linter.unusedSimpArgs false
set_option maxRecDepth 20000
namespace Go.Proofs.YtokgkifckgnabaaGreatDoor
open Go.RowKit Go.Maps
theorem below_row {w w' : World} (h : Below w.heap.size w w') (row : Option Nat) : w.grownBy w' row := ⟨h.os, h.tape, h.output, h.size, fun i hi _ => h.block i hi⟩
def namesB (names : List (List UInt8)) (m : Nat) : Bool := names.all validL && decide names.Nodup && decide (names.length = m)
theorem namesB_twice {names : List (List UInt8)} {m i : Nat} {p : List UInt8} (hp : names[i]? = some p) (hc : (names.take i).contains p = true) : namesB names m = false := by
  have : ¬ names.Nodup := by
    intro hnd
    rw [List.contains_iff_mem] at hc
    obtain ⟨j, hj, e⟩ := List.getElem_of_mem hc
    rw [List.getElem_take] at e
    obtain ⟨hi, e2⟩ := List.getElem?_eq_some_iff.1 hp
    have hji : j < i := by simp at hj; omega
    exact (List.pairwise_iff_getElem.1 hnd) j i (by omega) hi hji (by rw [e, e2])
  simp [namesB, this]
theorem namesB_bad {names : List (List UInt8)} {m i : Nat} {p : List UInt8} (hp : names[i]? = some p) (hc : validL p = false) : namesB names m = false := by
  have : names.all validL = false := by
    rw [List.all_eq_false]
    exact ⟨p, List.mem_of_getElem? hp, by simp [hc]⟩
  simp [namesB, this]
theorem nodup_snoc {names : List (List UInt8)} {i : Nat} {p : List UInt8} (hp : names[i]? = some p) (hc : (names.take i).contains p = false) (h : (names.take i).Nodup) : (names.take (i + 1)).Nodup := by
  rw [List.take_add_one, hp]
  have hm : p ∉ names.take i := by
    intro hm
    rw [← List.contains_iff_mem, hc] at hm
    cases hm
  simp only [Option.toList_some]
  rw [List.nodup_append]
  exact ⟨h, by simp, fun a ha b hb e => hm (by simp at hb; rw [← hb, ← e]; exact ha)⟩
theorem all_snoc {names : List (List UInt8)} {i : Nat} {p : List UInt8} (hp : names[i]? = some p) (hc : validL p = true) (h : (names.take i).all validL = true) : (names.take (i + 1)).all validL = true := by
  rw [List.take_add_one, hp, List.all_append, h]
  simp [hc]
set_option maxHeartbeats 4000000 in
theorem named_walk (v : Jv) (cs : List Value) (w : World) (hsm : smJ v) (hv : JvV w 0 v cs) :
    Calls Tryz.prog 76 #[.agg cs.toArray] w fun e w' => e = .returned (.bool (namesB v.names v.kids.length)) ∧ Below w.heap.size w w' := by
  obtain ⟨k, b, n, s, names, kids⟩ := v
  show Calls _ _ _ _ fun e w' => e = .returned (.bool (namesB names kids.length)) ∧ _
  rw [smJ] at hsm
  obtain ⟨_, _, _, hs4, hs5, hs6, hs7⟩ := hsm
  rw [JvV] at hv
  obtain ⟨NA, nc, A, c, vs, rfl, h1, h2, h3, _, h5, _, h7⟩ := hv
  simp only [cells6, strV]
  generalize hx : (⟨s.toArray⟩ : ByteArray) = y at *
  clear hx
  have hw1 : (w.alloc (.cells #[.int .i64 k, .bool b, .int .i64 n, .string y, .slice NA names.length nc, .slice A kids.length c] 27)).heap.size = w.heap.size + 1 := by simp
  have hb1 := (Below.refl w.heap.size w).alloc (Nat.le_refl _) (.cells #[.int .i64 k, .bool b, .int .i64 n, .string y, .slice NA names.length nc, .slice A kids.length c] 27)
  have HB2 := Lib.hid (hb1.alloc hb1.size (.map #[] 0))
  have HK1 := Lib.hid ((Blk.new w 27 #[.int .i64 k, .bool b, .int .i64 n, .string y, .slice NA names.length nc, .slice A kids.length c]).alloc (.map #[] 0))
  have hm := MapS.made (w.alloc (.cells #[.int .i64 k, .bool b, .int .i64 n, .string y, .slice NA names.length nc, .slice A kids.length c] 27))
  rw [hw1] at hm
  have HM := Lib.hid hm
  clear hw1 hb1 hm
  have hmm := @run_makeMap Tryz.prog
  go_enter Tryz.func76, Tryz.ntmps76
  go_wp2_with fail
  go_loopw [10] (fun iv wr => ∃ i : Nat, i ≤ names.length ∧ iv = .int .i64 i ∧ Hid ((names.take i).Nodup) ∧ Hid ((names.take i).all validL = true) ∧ Hid (wr.ownsMap Tryz.prog 9 boolElem (w.heap.size + 1) i (mapS (names.take i))) ∧ Hid (Below w.heap.size w wr) ∧ Hid (Blk wr w.heap.size 27 #[.int .i64 k, .bool b, .int .i64 n, .string y, .slice NA names.length nc, .slice A kids.length c])) (fun iv _ => names.length - (intOf iv).toNat)
  case atStart => exact ⟨0, by omega, rfl, by show List.Nodup _; simp, by show _ = _; simp, by simpa using HM, HB2, HK1⟩
  case round =>
    clear HM HB2 HK1
    obtain ⟨i, hi, rfl, hnd, hall, hM, hB, hK⟩ := hrel
    by_cases hlt : i < names.length
    · obtain ⟨ad, p, rfl, hpk, had, hcu⟩ := name_at h3 hlt
      have hpl := hs5 p (List.mem_of_getElem? hpk)
      replace hcu := (hB.out.cell (p := ad.add i) (by rw [block_of_add]; exact had)).trans hcu
      have hkey := keyS ⟨p.toArray⟩ p (by simp) (by rw [size_mks]; omega)
      have hlook := (show MapS wr (w.heap.size + 1) (names.take i) from ⟨_, hM.out⟩).look ⟨p.toArray⟩ p (by simp) (by rw [size_mks]; omega)
      have cp := Lib.hid (fun W => valid_walk ⟨p.toArray⟩ p (by simp) W (by rw [size_mks]; omega))
      cases hcn : (names.take i).contains p
      · rw [hcn] at hlook
        cases hvp : validL p
        · have hv := Lib.hid (namesB_bad (m := kids.length) hpk hvp)
          rw [hvp] at cp
          clear hpk hpl hcn hvp
          generalize (⟨p.toArray⟩ : ByteArray) = x at *
          go_wp2_with fail
          refine (cp.out _).mono ?_
          rintro _ w3 ⟨rfl, hb3⟩
          have HB3 := Lib.hid (below_next hB.out hb3)
          clear hb3
          go_wp2_with fail
          go_ret
          exact ⟨by rw [hv.out]; rfl, HB3.out⟩
        · have HN := Lib.hid (nodup_snoc hpk hcn hnd.out)
          have HA := Lib.hid (all_snoc hpk hvp hall.out)
          have htk : Hid (names.take (i + 1) = names.take i ++ [p]) := by show _ = _; rw [List.take_add_one, hpk]; rfl
          rw [hvp] at cp
          clear hpk hpl hcn hvp
          generalize (⟨p.toArray⟩ : ByteArray) = x at *
          go_wp2_with fail
          refine (cp.out _).mono ?_
          rintro _ w3 ⟨rfl, hb3⟩
          have HB3 := Lib.hid (below_next hB.out hb3)
          have HK3 := Lib.hid (hK.out.below hb3 hK.out.lt)
          have hM3 := Lib.hid (hM.out.kept (row := none) (below_row hb3 none) (by simp))
          have hsz3 := hM.out.lt
          have hsz4 := hb3.size
          clear hb3 hlook hM hK
          go_wp2_with (at_mapUpdate; refine wpList_mapUpdate_own w3 rfl _ _ _ 117 rfl 9 4 lawS Tryz.underlying117 boolElem (w.heap.size + 1) i (mapS (names.take i)) rfl hM3.out (by unfold maxLen; omega) _ _ (.string p) rfl rfl hkey (.lit (.bool true)) [] rfl ?_; intro w2 hown2 hg2; go_frame)
          rw [mapS_put, ← htk.out] at hown2
          have HB2 := Lib.hid (HB3.out.grown hg2 HB3.out.size (fun k e => by cases e; omega))
          have HK2 := Lib.hid (HK3.out.grown hg2 (fun e => by injection e with e; omega))
          have HM2 := Lib.hid hown2
          clear hown2 hg2
          go_wp2_with fail
          exact ⟨⟨i + 1, by omega, by go_num, HN, HA, HM2, HB2, HK2⟩, by simp [intOf]; omega⟩
      · have hv := Lib.hid (namesB_twice (m := kids.length) hpk hcn)
        rw [hcn] at hlook
        clear hpk hpl hcn cp
        generalize (⟨p.toArray⟩ : ByteArray) = x at *
        go_wp2_with fail
        go_ret
        exact ⟨by rw [hv.out]; rfl, hB.out⟩
    · obtain rfl : i = names.length := by omega
      have hv : Hid (namesB names kids.length = ((names.length : Int) == (kids.length : Int))) := by
        show _ = _
        have h1 := hnd.out
        have h2 := hall.out
        rw [List.take_length] at h1 h2
        rw [namesB, h2, decide_eq_true h1, Bool.eq_iff_iff]
        simp
        omega
      have c4 : wr.cell? ⟨w.heap.size, 4, none⟩ = some (.slice NA names.length nc) := hK.out.cell 4
      have c5 : wr.cell? ⟨w.heap.size, 5, none⟩ = some (.slice A kids.length c) := hK.out.cell 5
      go_wp2_with fail
      go_ret
      exact ⟨by rw [hv.out]; rfl, hB.out⟩
end Go.Proofs.YtokgkifckgnabaaGreatDoor

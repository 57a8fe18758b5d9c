/- scope.Has, scope.Within (over sets of words), and countersignlaw16.same. No condition of its own. -/
import Derived.Test.YtaaajmfbblbgiaaDoorSf
set_option linter.unusedVariables false
set_option linter.unusedSimpArgs false
set_option maxRecDepth 20000
namespace Go.Proofs.YtaaajmfbblbgiaaDoor
open Go.RowKit Go.Maps
set_option maxHeartbeats 8000000 in
theorem has_walk (s : ByteArray) (l : List UInt8) (hs : s.data.toList = l) (hm : s.size ≤ 1000000) (x : ByteArray) (q : List UInt8) (hx : x.data.toList = q) (hxs : x.size ≤ 9223372036854775807) (w : World) :
    Calls Tryd.prog 11 #[.string s, .string x] w fun e w' => e = .returned (.bool (hasB (splitC 32 l) q)) ∧ Below w.heap.size w w' := by
  have cp := Lib.hid (words_walk s l hs w hm)
  obtain ⟨ps, hps⟩ : ∃ ps, splitC 32 l = ps := ⟨_, rfl⟩
  rw [hps] at cp ⊢
  clear hps
  go_enter Tryd.func11, Tryd.ntmps11
  go_wp2_with fail
  refine cp.out.mono ?_
  rintro _ w1 ⟨hb, g, rfl, hg, hmap⟩
  have HB := Lib.hid hb
  have hlook := hmap.look x q hx hxs
  clear hb hmap
  cases hok : okB ps
  · have hv : Hid (hasB ps q = false) := by show _ = _; rw [hasB, hok, Bool.false_and]
    clear hlook
    go_wp2_with fail
    go_ret
    exact ⟨by rw [hv.out]; rfl, HB.out⟩
  · have hws : wordsS ps = ps := if_pos (of_decide_eq_true hok)
    rw [hws] at hlook
    have hv : hasB ps q = ps.contains q := by rw [hasB, hok, Bool.true_and]
    obtain ⟨bb, hbb⟩ : ∃ bb, ps.contains q = bb := ⟨_, rfl⟩
    rw [hbb] at hlook hv
    have HV := Lib.hid hv
    clear hv hbb hws
    go_wp2_with fail
    go_ret
    exact ⟨by rw [HV.out]; rfl, HB.out⟩
theorem in_no {ps qs : List (List UInt8)} {q : List UInt8} (h1 : (wordsS ps).contains q = true) (h2 : (wordsS qs).contains q = false) : withinB ps qs = false := by
  unfold wordsS at h1 h2
  split at h1
  · split at h2
    · rename_i hp hq
      rw [Bool.eq_false_iff]
      intro h
      unfold withinB at h
      simp only [Bool.and_eq_true, List.all_eq_true] at h
      have := h.2.2 q (by simpa using h1)
      rw [this] at h2
      cases h2
    · exact within_no (Or.inr (by assumption))
  · simp at h1
theorem in_yes {ps qs : List (List UInt8)} (h : ∀ q, (wordsS ps).contains q = true → (wordsS qs).contains q = true) : withinB ps qs = (okB ps && okB qs) := by
  unfold withinB
  cases hp : okB ps
  · rfl
  · cases hq : okB qs
    · rfl
    · have h1 : wordsS ps = ps := if_pos (of_decide_eq_true hp)
      have h2 : wordsS qs = qs := if_pos (of_decide_eq_true hq)
      rw [h1, h2] at h
      rw [Bool.true_and, Bool.true_and, Bool.true_and, List.all_eq_true]
      exact fun p hp => h p (by simpa using hp)
theorem keyOf_str_inv {key : Value} {kl : Lit} (h : keyOf Tryd.prog 9 key = some kl) : ∃ x, key = .string x ∧ kl = .string x.data.toList := by
  have hk := Tryd.underlying9
  cases key <;> simp [keyOf, hk, mapKey] at h
  obtain ⟨_, rfl⟩ := h
  exact ⟨_, rfl, rfl⟩
theorem MapS.look_key {w : World} {b : Nat} {ps : List (List UInt8)} (h : MapS w b ps) (x : ByteArray) (hk : keyOf Tryd.prog 9 (.string x) = some (.string x.data.toList)) :
    (Instr.lookup 45 (.map (some b)) (.string x) false).run Tryd.prog w = .ok (.bool (ps.contains x.data.toList)) w := by
  obtain ⟨n, h⟩ := h
  obtain ⟨v, z, hrun, hv⟩ := h.lookup lawS Tryd.underlying45 (zeroB w) (zd := .lit (.bool false)) (zp := []) rfl hk
  obtain ⟨c, rfl, hc⟩ := boolElem_inv hv
  rw [mapS_at] at hc
  simp only [Prod.mk.injEq, DataW.lit.injEq, Lit.bool.injEq] at hc
  rw [hrun, ← hc.1]
theorem MapS.kept {w w' : World} {b : Nat} {ps : List (List UInt8)} {row : Option Nat} (h : MapS w b ps) (hg : w.grownBy w' row) (hne : some b ≠ row) : MapS w' b ps := by
  obtain ⟨n, h⟩ := h
  exact ⟨n, h.kept hg hne⟩
/-- the step of a ranging over a set of words -/
theorem wpList_next_S (w : World) {ops : Array Oper} {rest : List Oper} {o : Oper} {a : Act} {Q : Exit → Act → World → Prop} (hg : o.guard = none) (it : Operand) (hop : o.op = Op.next it false)
    (b r n : Nat) (D : DataW Unit) (left : Lit → Bool) (cnt : Nat)
    (hit : a.eval it = .pointer (some ⟨r, 0, none⟩)) (h : w.ranges Tryd.prog 9 boolElem b r n D left cnt)
    (hDone : cnt = 0 → (∀ kl, left kl = false) → wpList Tryd.prog ops Q rest (a.put o.dst (.tuple #[.bool false])) w)
    (hMore : ∀ (x : ByteArray) (v : Value) (w' : World) (cnt' : Nat), keyOf Tryd.prog 9 (.string x) = some (.string x.data.toList) → has D (.string x.data.toList) = true → w'.ranges Tryd.prog 9 boolElem b r n D (fun z => left z && !z.sameKey (.string x.data.toList)) cnt' → cnt' < cnt →
      w.grownBy w' (some r) → w'.heap.size = w.heap.size → (Instr.entry (.pointer (some ⟨r, 0, none⟩))).run Tryd.prog w' = .ok (.tuple #[.string x, v]) w' → wpList Tryd.prog ops Q rest (a.put o.dst (.tuple #[.bool true, .string x, v])) w') :
    wpList Tryd.prog ops Q (o :: rest) a w :=
  wpList_next_ranges w hg it hop 9 lawS boolElem Value.string id (fun key kl h => by obtain ⟨x, rfl, _⟩ := keyOf_str_inv h; exact ⟨x, rfl⟩) (fun v y _ => ⟨v, rfl⟩) b r n D left cnt hit h hDone
    (fun x c kl y w' cnt' hkey hlk hv hat hrg hlt hgr hsz hen => by
      obtain ⟨x', ex, rfl⟩ := keyOf_str_inv hkey
      cases ex
      exact hMore x c w' cnt' hkey (has_true_of_atKey hat) hrg hlt hgr hsz hen)
set_option maxHeartbeats 8000000 in
theorem within_walk (s : ByteArray) (l : List UInt8) (hs : s.data.toList = l) (hm : s.size ≤ 1000000) (t : ByteArray) (m : List UInt8) (ht : t.data.toList = m) (hm2 : t.size ≤ 1000000) (w : World) :
    Calls Tryd.prog 13 #[.string s, .string t] w fun e w' => e = .returned (.bool (withinB (splitC 32 l) (splitC 32 m))) ∧ Below w.heap.size w w' := by
  have cp := Lib.hid (words_walk s l hs w hm)
  have cp2 := Lib.hid (fun w => words_walk t m ht w hm2)
  obtain ⟨ps, hps⟩ : ∃ ps, splitC 32 l = ps := ⟨_, rfl⟩
  obtain ⟨qs, hqs⟩ : ∃ qs, splitC 32 m = qs := ⟨_, rfl⟩
  rw [hps] at cp ⊢
  rw [hqs] at cp2 ⊢
  clear hps hqs
  go_enter Tryd.func13, Tryd.ntmps13
  go_wp2_with fail
  refine cp.out.mono ?_
  rintro _ w1 ⟨hb, g1, rfl, hg1, hmap⟩
  have HB1 := Lib.hid hb
  have HM1 := Lib.hid hmap
  clear hb hmap
  go_wp2_with fail
  refine (cp2.out w1).mono ?_
  rintro _ w2 ⟨hb, g2, rfl, hg2, hmap⟩
  have HB := Lib.hid (below_next HB1.out hb)
  have HM := Lib.hid (HM1.out.below hb HM1.out.lt)
  have HM2 := Lib.hid hmap
  have hl1 := HM.out.lt
  have hl2 := hmap.lt
  have hsz : w.heap.size ≤ w2.heap.size := HB.out.size
  clear hb hmap HB1 HM1
  obtain ⟨n, hown⟩ := HM.out
  obtain ⟨p1, hp1⟩ : ∃ b, okB ps = b := ⟨_, rfl⟩
  obtain ⟨q1, hq1⟩ : ∃ b, okB qs = b := ⟨_, rfl⟩
  rw [hp1, hq1]
  have HP1 := Lib.hid hp1
  have HQ1 := Lib.hid hq1
  clear hp1 hq1
  go_wp2_with (first | (at_range; refine wpList_range_own _ rfl _ 45 rfl 9 4 lawS Tryd.underlying45 boolElem g1 n _ rfl hown ?_; intro w0 hrg0 hg0 hs0) | go_in)
  go_frame
  obtain ⟨r, hr⟩ : ∃ r, w2.heap.size = r := ⟨_, rfl⟩
  rw [hr] at hrg0 hs0 hl1 hl2 hsz ⊢
  go_loopw [9] (fun _ wr => ∃ (left : Lit → Bool) (cnt : Nat), wr.ranges Tryd.prog 9 boolElem g1 r n (mapS (wordsS ps)) left cnt ∧ Hid (MapS wr g2 (wordsS qs)) ∧ Hid (Below w.heap.size w wr) ∧ Hid (∀ q, (wordsS ps).contains q = true → left (.string q) = false → (wordsS qs).contains q = true))
    (fun _ wr => wr.rangeLeft g1 r)
  case atStart =>
    refine ⟨_, _, hrg0, HM2.out.kept hg0 (by simp), HB.out.grown hg0 (by omega) (fun k e => by cases e), fun q hq hf => ?_⟩
    rw [mapS_has, hq] at hf
    cases hf
  case round =>
    obtain ⟨left, cnt, hrg, hMr, hBr, hall⟩ := hrel
    go_wp2_with (first | (at_next; refine wpList_next_S _ rfl _ rfl g1 r n _ _ _ rfl hrg ?_ ?_) | go_in)
    · intro hc0 hl0
      have hv := Lib.hid (in_yes (ps := ps) (qs := qs) (fun q hq => hall.out q hq (hl0 _)))
      have hv2 : Hid (withinB ps qs = (p1 && q1)) := by show _ = _; rw [hv.out, HP1.out, HQ1.out]
      clear hv
      cases p1 <;> cases q1
      all_goals
        go_wp2_with fail
        go_ret
        exact ⟨by rw [hv2.out]; rfl, hBr.out⟩
    · intro x v w3 cnt1 hkey hin0 hrg1 hlt hg1 hs1 hen
      have hM3 := hMr.out.kept hg1 (by simp; omega)
      have hlook := hM3.look_key x hkey
      have hin : (wordsS ps).contains x.data.toList = true := by
        rw [← mapS_has]
        exact hin0
      have HB3 := Lib.hid (hBr.out.grown hg1 hBr.out.size (fun k e => by cases e; exact hsz))
      have HM3 := Lib.hid hM3
      obtain ⟨bb, hbb⟩ : ∃ bb, (wordsS qs).contains x.data.toList = bb := ⟨_, rfl⟩
      rw [hbb] at hlook
      cases bb
      · have hv := Lib.hid (in_no hin hbb)
        clear hM3 hin hbb
        go_wp2_with fail
        go_ret
        exact ⟨by rw [hv.out]; rfl, HB3.out⟩
      · have HN : Hid (∀ q, (wordsS ps).contains q = true → (left (.string q) && !(Lit.string q).sameKey (.string x.data.toList)) = false → (wordsS qs).contains q = true) := fun q hq hf => by
          rw [Bool.and_eq_false_iff] at hf
          rcases hf with hf | hf
          · exact hall.out q hq hf
          · have : q = x.data.toList := by simpa [Lit.sameKey] using hf
            rw [this]; exact hbb
        clear hM3 hin hbb
        go_wp2_with fail
        exact ⟨⟨_, _, hrg1, HM3, HB3, HN⟩, by rw [hrg1.left_eq, hrg.left_eq]; omega⟩
end Go.Proofs.YtaaajmfbblbgiaaDoor

/- countersignref12's reader: escape, text. Condition: a text of at most 1000000 bytes. Printed by wip/tools/genOd.py. -/
import Derived.Test.YtokgkifckgnabaaGreatDoorOc
import Derived.Test.YtokgkifckgnabaaGreatDoorRj
import Derived.Test.YtokgkifckgnabaaGreatDoorJ4
set_option linter.unusedVariables false
set_option linter.unusedSimpArgs false
set_option maxRecDepth 20000
namespace Go.Proofs.YtokgkifckgnabaaGreatDoor
open Go.RowKit Go.Maps
def TxR (g : Nat) (s : ByteArray) (r : Option (List UInt8 × List UInt8)) (w : World) (f : Ending) (w' : World) : Prop :=
  w.grownBy w' (some g) ∧ match r with
    | some (t, r2) => ∃ q, f = .returned (.string ⟨t.toArray⟩) ∧ RAt w' g s q 0 ∧ s.data.toList.drop q = r2
    | none => ∃ (t : ByteArray) (q : Nat), f = .returned (.string t) ∧ RAt w' g s q 3
def quoteR (l : List UInt8) : Option (List UInt8 × List UInt8) := if atB (skipB l) 34 then textR (skipB l).tail else none
theorem txR_none {g q : Nat} {s t : ByteArray} {r : Option (List UInt8 × List UInt8)} {w w' : World} {f : Ending} (hr : r = none) (hf : f = .returned (.string t)) (hg : w.grownBy w' (some g)) (h : RAt w' g s q 3) : TxR g s r w f w' := by
  subst hr
  exact ⟨hg, t, q, hf, h⟩
theorem own_putR {w : World} {B : Nat} {e : TypeId} {size n : Nat} {v : Value} {xs : List Value} (h : w.ownsRow B e size v n xs) {w' : World} {g : Nat} (hg : w.grownBy w' (some g)) (hb : g < B) : w'.ownsRow B e size v n xs := own_grown h hg (fun q e => by injection e with e; omega)
theorem str_own {w : World} {B n : Nat} {v : Value} {l : List UInt8} (h : w.ownsRow B 5 1 v n (Lib.byteCells l)) : (convert 32 9 v).run Tryz.prog w = .ok (.string ⟨l.toArray⟩) w := by
  obtain ⟨A', c', rfl, _, hr⟩ := own_reads h (Nat.le_refl _)
  exact str_string hr
/-- within the loop: at q, with e; acc so far -/
def TxS (g : Nat) (s : ByteArray) (l : List UInt8) (w : World) (q e : Nat) (acc : List UInt8) (bv : Value) (W : World) : Prop :=
  RAt W g s q e ∧ W.ownsRow w.heap.size 5 1 bv acc.length (Lib.byteCells acc) ∧ w.grownBy W (some g) ∧ acc.length ≤ q ∧ ((e = 0 ∧ ∃ f, s.size - q + 1 ≤ f ∧ quoteR l = strR f acc (s.data.toList.drop q)) ∨ (e = 3 ∧ quoteR l = none))
set_option maxHeartbeats 16000000 in
theorem rtext0_walk (g : Nat) (s : ByteArray) (p : Nat) (w : World) (h : RAt w g s p 0) :
    Calls Tryz.prog 52 #[.pointer (some ⟨g, 0, none⟩)] w (TxR g s (quoteR (s.data.toList.drop p)) w) := by
  have hsm := h.2.2
  have hgl := h.lt
  obtain ⟨i0, hi, hz0, hz1, hz2⟩ := infoS4 info_u8
  have hlen : ∀ k, (s.data.toList.drop k).length = s.size - k := fun k => by simp
  have HLEN := Lib.hid hlen
  have cw := Lib.hid (want_walk g s p 34 w h)
  clear h hlen
  go_enter Tryz.func52, Tryz.ntmps52
  go_wp2_with fail
  refine cw.out.mono ?_
  rintro _ w1 ⟨q1, rfl, hg1, hR1, hd1⟩
  have HS : Hid (∃ q e acc, TxS g s (s.data.toList.drop p) w q e acc (.slice none 0 0) w1) := by
    show ∃ q e acc, _
    cases hb : atB (skipB (s.data.toList.drop p)) 34
    · rw [hb] at hR1
      exact ⟨q1, 3, [], hR1, World.ownsRow_nil _ _ _ _, hg1, by simp, .inr ⟨rfl, by rw [quoteR, hb]; rfl⟩⟩
    · rw [hb] at hR1
      refine ⟨q1, 0, [], hR1, World.ownsRow_nil _ _ _ _, hg1, by simp, .inl ⟨rfl, s.size - q1 + 1, Nat.le_refl _, ?_⟩⟩
      rw [quoteR, hb, if_pos rfl, textR, ← hd1 hb, HLEN.out]
  clear hg1 hR1 hd1 cw
  go_wp2_with fail
  go_loopw [3] (fun ov wr => ∃ q e acc, Hid (TxS g s (s.data.toList.drop p) w q e acc ov wr)) (fun _ wr => match wr.cell? ⟨g, 2, none⟩, wr.cell? ⟨g, 1, none⟩ with | some (.int _ e), some (.int _ n) => if e = 0 then 1 + s.size - n.toNat else 0 | _, _ => 0)
  case atStart =>
    obtain ⟨q, e, acc, h⟩ := HS.out
    exact ⟨q, e, acc, h⟩
  case round =>
    clear HS
    obtain ⟨q, e, acc, HT⟩ := hrel
    obtain ⟨hP, hown, hg, hacc, hc⟩ := HT.out
    have hq := hP.2.1
    obtain ⟨c0, c1, f1, c2, f2⟩ := hP.facts
    have HP := Lib.hid hP
    have HOW := Lib.hid hown
    have HG := Lib.hid hg
    clear hP hown hg HT
    rcases hc with ⟨rfl, f, hf, hs⟩ | ⟨rfl, hn⟩
    case inr =>
      have HN := Lib.hid hn
      clear hn
      obtain ⟨A, cc, eA, hcc, hrd⟩ := own_reads HOW.out (Nat.le_refl _)
      subst eA
      have hcs := str_string (c := cc) hrd
      have CV := Lib.hid (rvalid_walk ⟨acc.toArray⟩ acc (by simp) wr (by rw [size_mks]; omega))
      clear hrd
      have HOB := HOW
      go_wp2_with fail
      refine CV.out.mono ?_
      rintro _ W5 ⟨rfl, hb5⟩
      have HP5 := Lib.hid (HP.out.below hb5)
      have HG5 := Lib.hid (grown_below2 HG.out hb5)
      have HO5 := Lib.hid (ownsRow_below HOB.out hb5)
      have hcs5 := str_own HO5.out
      clear hb5 hcs HOB
      cases hval : validL acc
      · clear hval
        have CF5 := Lib.hid (fail_walk g s q 3 3 W5 HP5.out)
        go_wp2_with fail
        refine CF5.out.mono ?_
        rintro _ W6 ⟨rfl, hR6, hg6⟩
        have hcs6 := str_own (own_putR HO5.out hg6 hgl)
        have HR6 := Lib.hid (show RAt W6 g s q 3 from hR6)
        have HG6 := Lib.hid (grown_then HG5.out hg6 (fun q e => .inl (by injection e with e; exact e.symm)))
        clear hR6 hg6 hcs5
        go_wp2_with fail
        go_ret
        exact txR_none HN.out rfl HG6.out HR6.out
      · clear hval
        go_wp2_with fail
        go_ret
        exact txR_none HN.out rfl HG5.out HP5.out
    have HSR := Lib.hid hs
    clear hs
    by_cases hlt : q < s.size
    case neg =>
      have g1 : decide ((s.size : Int) ≤ (q : Int)) = true := by simp; omega
      have g2 : decide (s.size ≤ q) = true := by simp; omega
      have HN : Hid (quoteR (s.data.toList.drop p) = none) := by
        show _ = _
        rw [HSR.out, drop_end hlt]
        cases f <;> rfl
      have CF := Lib.hid (fun n => fail_walk g s q 0 3 (wr.drewN n) (HP.out.dn n))
      go_wp2_with fail
      go_quiet (fail)
      go_wp2_with fail
      refine (CF.out nq).mono ?_
      rintro _ W2 ⟨rfl, hR, hg2⟩
      have HP2 := Lib.hid (show RAt W2 g s q 3 from hR)
      have HOW2 := Lib.hid (own_putR (show (wr.drewN nq).ownsRow _ _ _ _ _ _ from HOW.out) hg2 hgl)
      have HG2 := Lib.hid (grown_then (grown_dn HG.out nq) hg2 (fun q e => .inl (by injection e with e; exact e.symm)))
      clear hR hg2 HP HOW HG CF c0 c1 f1 c2 f2
      obtain ⟨A, cc, eA, hcc, hrd⟩ := own_reads HOW2.out (Nat.le_refl _)
      subst eA
      have hcs := str_string (c := cc) hrd
      have CV := Lib.hid (rvalid_walk ⟨acc.toArray⟩ acc (by simp) W2 (by rw [size_mks]; omega))
      clear hrd
      have HOB := HOW2
      go_wp2_with fail
      refine CV.out.mono ?_
      rintro _ W5 ⟨rfl, hb5⟩
      have HP5 := Lib.hid (HP2.out.below hb5)
      have HG5 := Lib.hid (grown_below2 HG2.out hb5)
      have HO5 := Lib.hid (ownsRow_below HOB.out hb5)
      have hcs5 := str_own HO5.out
      clear hb5 hcs HOB
      cases hval : validL acc
      · clear hval
        have CF5 := Lib.hid (fail_walk g s q 3 3 W5 HP5.out)
        go_wp2_with fail
        refine CF5.out.mono ?_
        rintro _ W6 ⟨rfl, hR6, hg6⟩
        have hcs6 := str_own (own_putR HO5.out hg6 hgl)
        have HR6 := Lib.hid (show RAt W6 g s q 3 from hR6)
        have HG6 := Lib.hid (grown_then HG5.out hg6 (fun q e => .inl (by injection e with e; exact e.symm)))
        clear hR6 hg6 hcs5
        go_wp2_with fail
        go_ret
        exact txR_none HN.out rfl HG6.out HR6.out
      · clear hval
        go_wp2_with fail
        go_ret
        exact txR_none HN.out rfl HG5.out HP5.out
    obtain ⟨b, eb, hb2⟩ : ∃ b : Nat, (s[q]'hlt).toNat = b ∧ b < 256 := ⟨_, rfl, (s[q]'hlt).toNat_lt⟩
    obtain ⟨f, rfl⟩ : ∃ f', f = f' + 1 := ⟨f - 1, by omega⟩
    have hd := drop_cons hlt eb
    have i1 := fun W => run_index_at (P := Tryz.prog) 9 Tryz.underlying9 s q b hlt eb W
    have g1 : decide ((s.size : Int) ≤ (q : Int)) = false := by simp; omega
    have g2 : decide (s.size ≤ q) = false := by simp; omega
    by_cases h32 : b < 32
    case pos =>
      have d2 : decide ((b : Int) < 32) = true := by simp; omega
      have d2' : decide (b < 32) = true := by simp; omega
      have HN : Hid (quoteR (s.data.toList.drop p) = none) := by
        show _ = _
        rw [HSR.out, hd, strR, if_neg (by simp [← UInt8.toNat_inj]; omega), if_pos (by rw [UInt8.lt_iff_toNat_lt]; simp; omega)]
      have CF := Lib.hid (fun n => fail_walk g s q 0 3 (wr.drewN n) (HP.out.dn n))
      clear hd h32
      go_wp2_with fail
      go_quiet (fail)
      go_wp2_with fail
      refine (CF.out nq).mono ?_
      rintro _ W2 ⟨rfl, hR, hg2⟩
      have HP2 := Lib.hid (show RAt W2 g s q 3 from hR)
      have HOW2 := Lib.hid (own_putR (show (wr.drewN nq).ownsRow _ _ _ _ _ _ from HOW.out) hg2 hgl)
      have HG2 := Lib.hid (grown_then (grown_dn HG.out nq) hg2 (fun q e => .inl (by injection e with e; exact e.symm)))
      clear hR hg2 HP HOW HG CF c0 c1 f1 c2 f2
      obtain ⟨A, cc, eA, hcc, hrd⟩ := own_reads HOW2.out (Nat.le_refl _)
      subst eA
      have hcs := str_string (c := cc) hrd
      have CV := Lib.hid (rvalid_walk ⟨acc.toArray⟩ acc (by simp) W2 (by rw [size_mks]; omega))
      clear hrd
      have HOB := HOW2
      go_wp2_with fail
      refine CV.out.mono ?_
      rintro _ W5 ⟨rfl, hb5⟩
      have HP5 := Lib.hid (HP2.out.below hb5)
      have HG5 := Lib.hid (grown_below2 HG2.out hb5)
      have HO5 := Lib.hid (ownsRow_below HOB.out hb5)
      have hcs5 := str_own HO5.out
      clear hb5 hcs HOB
      cases hval : validL acc
      · clear hval
        have CF5 := Lib.hid (fail_walk g s q 3 3 W5 HP5.out)
        go_wp2_with fail
        refine CF5.out.mono ?_
        rintro _ W6 ⟨rfl, hR6, hg6⟩
        have hcs6 := str_own (own_putR HO5.out hg6 hgl)
        have HR6 := Lib.hid (show RAt W6 g s q 3 from hR6)
        have HG6 := Lib.hid (grown_then HG5.out hg6 (fun q e => .inl (by injection e with e; exact e.symm)))
        clear hR6 hg6 hcs5
        go_wp2_with fail
        go_ret
        exact txR_none HN.out rfl HG6.out HR6.out
      · clear hval
        go_wp2_with fail
        go_ret
        exact txR_none HN.out rfl HG5.out HP5.out
    have d2 : decide ((b : Int) < 32) = false := by simp; omega
    have d2' : decide (b < 32) = false := by simp; omega
    have hnl : ¬ UInt8.ofNat b < 32 := by rw [UInt8.lt_iff_toNat_lt]; simp; omega
    have hq1 : Hid ((q : Int) + 1 = ((q + 1 : Nat) : Int)) := by show _ = _; omega
    have HPH : Hid (∀ n, RAt ((wr.drewN n).setCell ⟨g, 1, none⟩ (.int .i64 ((q : Int) + 1))) g s (q + 1) 0) := fun n => by rw [hq1.out]; exact ((HP.out.dn n).put (q + 1) (by omega)).1
    have HGH : Hid (∀ n, w.grownBy ((wr.drewN n).setCell ⟨g, 1, none⟩ (.int .i64 ((q : Int) + 1))) (some g)) := fun n => by rw [hq1.out]; exact grown_then (grown_dn HG.out n) ((HP.out.dn n).put (q + 1) (by omega)).2 (fun q e => by injection e with e; exact .inl e.symm)
    have HOH : Hid (∀ n, ((wr.drewN n).setCell ⟨g, 1, none⟩ (.int .i64 ((q : Int) + 1))).ownsRow w.heap.size 5 1 u3 acc.length (Lib.byteCells acc)) := fun n => own_put (show (wr.drewN n).ownsRow _ _ _ _ _ _ from HOW.out) hgl _
    clear HP HG HOW
    by_cases h34 : b = 34
    case pos =>
      subst h34
      have hv0 : quoteR (s.data.toList.drop p) = if validL acc then some (acc, s.data.toList.drop (q + 1)) else none := by
        rw [HSR.out, hd, strR, if_pos (by decide)]
      have HV0 := Lib.hid hv0
      have hcsN : ∀ n, (convert 32 9 u3).run Tryz.prog ((wr.drewN n).setCell ⟨g, 1, none⟩ (.int .i64 ((q : Int) + 1))) = .ok (.string ⟨acc.toArray⟩) ((wr.drewN n).setCell ⟨g, 1, none⟩ (.int .i64 ((q : Int) + 1))) := fun n => str_own (HOH.out n)
      clear hv0 hd HSR hnl h32
      go_wp2_with fail
      go_quiet (fail)
      revert nq; intro m1
      go_wp2_with fail
      go_quiet (fail)
      go_wp2_with fail
      have hP2 := HPH.out (m1 + nq)
      have hG2 := HGH.out (m1 + nq)
      have hO2 := HOH.out (m1 + nq)
      generalize (wr.drewN (m1 + nq)).setCell ⟨g, 1, none⟩ (.int .i64 ((q : Int) + 1)) = W2 at hP2 hG2 hO2 ⊢
      have HP2 := Lib.hid hP2
      have HG2 := Lib.hid hG2
      have HO2 := Lib.hid hO2
      clear hP2 hG2 hO2 HPH HGH HOH c0 c1 f1 c2 f2 hcsN
      have CV := Lib.hid (rvalid_walk ⟨acc.toArray⟩ acc (by simp) W2 (by rw [size_mks]; omega))
      have HOB := HO2
      refine CV.out.mono ?_
      rintro _ W5 ⟨rfl, hb5⟩
      have HP5 := Lib.hid (HP2.out.below hb5)
      have HG5 := Lib.hid (grown_below2 HG2.out hb5)
      have HO5 := Lib.hid (ownsRow_below HOB.out hb5)
      have hcs5 := str_own HO5.out
      clear hb5 HOB
      cases hval : validL acc
      · have HN : Hid (quoteR (s.data.toList.drop p) = none) := by show _ = _; rw [HV0.out, hval]; rfl
        clear hval
        have CF5 := Lib.hid (fail_walk g s (q + 1) 0 3 W5 HP5.out)
        go_wp2_with fail
        refine CF5.out.mono ?_
        rintro _ W6 ⟨rfl, hR6, hg6⟩
        have hcs6 := str_own (own_putR HO5.out hg6 hgl)
        have HR6 := Lib.hid (show RAt W6 g s (q + 1) 3 from hR6)
        have HG6 := Lib.hid (grown_then HG5.out hg6 (fun q e => .inl (by injection e with e; exact e.symm)))
        clear hR6 hg6 hcs5
        go_wp2_with fail
        go_ret
        exact txR_none HN.out rfl HG6.out HR6.out
      · have HN : Hid (quoteR (s.data.toList.drop p) = some (acc, s.data.toList.drop (q + 1))) := by show _ = _; rw [HV0.out, hval]; rfl
        clear hval
        go_wp2_with fail
        go_ret
        exact ⟨HG5.out, by rw [HN.out]; exact ⟨q + 1, rfl, HP5.out, rfl⟩⟩
    have d34 : ((b : Int) == 34) = false := by simp; omega
    have hne : ¬ UInt8.ofNat b = 34 := by simp [← UInt8.toNat_inj]; omega
    by_cases h92 : b = 92
    case pos =>
      subst h92
      have hv0 : quoteR (s.data.toList.drop p) = match escR (s.data.toList.drop (q + 1)) with
          | none => none
          | some (b, n) => strR f (acc ++ [b]) ((s.data.toList.drop (q + 1)).drop n) := by
        rw [HSR.out, hd, strR, if_neg (by decide), if_neg (by decide), if_pos (by decide)]
        rfl
      have HV0 := Lib.hid hv0
      clear hv0 hd HSR hnl h32 hne d34
      go_wp2_with fail
      go_quiet (fail)
      revert nq; intro m1
      go_wp2_with fail
      go_quiet (fail)
      go_wp2_with fail
      have hP2 := HPH.out (m1 + nq)
      have hG2 := HGH.out (m1 + nq)
      have hO2 := HOH.out (m1 + nq)
      generalize (wr.drewN (m1 + nq)).setCell ⟨g, 1, none⟩ (.int .i64 ((q : Int) + 1)) = W2 at hP2 hG2 hO2 ⊢
      have CE := Lib.hid (escape_walk g s (q + 1) W2 hP2)
      have HG2 := Lib.hid hG2
      have HO2 := Lib.hid hO2
      clear hP2 hG2 hO2 HPH HGH HOH f1 f2
      refine CE.out.mono ?_
      rintro fe W3 ⟨hg3, hm⟩
      have HG3 := Lib.hid (grown_then HG2.out hg3 (fun q e => .inl (by injection e with e; exact e.symm)))
      have HO3 := Lib.hid (own_putR HO2.out hg3 hgl)
      have hls3 := HG3.out.size
      cases he : escR (s.data.toList.drop (q + 1)) with
      | none =>
        rw [he] at hm
        obtain ⟨x, q', hle, rfl, hx, hR⟩ := hm
        have HN : Hid (quoteR (s.data.toList.drop p) = none) := by show _ = _; rw [HV0.out, he]
        obtain ⟨eb, heb⟩ : ∃ eb : UInt8, eb.toNat = x := ⟨UInt8.ofNat x, by simp; omega⟩
        have HEB := Lib.hid heb
        have HR := Lib.hid hR
        clear he hg3 hR heb HV0 CE HG2 HO2
        have hrd5 := reads_row W3 5 [.int .u8 (x : Int)]
        go_wp2_with (at_builtin; refine wpList_append_any (W3.alloc (.cells #[.int .u8 (x : Int)] 5)) rfl (.tmp 58) (.tmp 60) 32 rfl w.heap.size 5 i0 (.int .u8 0) 1 1 Tryz.underlying32 hi hz0 hz1 hz2 rfl (by decide) u3 acc.length (Lib.byteCells acc) rfl (HO3.out.alloc _) (W3.heap.size + 1) _ 1 1 _ rfl hrd5 (by simp [Value.oneCell']) (by unfold maxLen; omega) (by omega) (by simp; omega) ?_; intro v' w2 hown2 hg2 _)
        have hne5 : ∀ q', u3.ownBlock = some q' → w.heap.size ≤ q' := fun q' e => ((HO3.out).lt q' e).1
        have hba := (Below.refl W3.heap.size W3).alloc (Nat.le_refl _) (.cells #[.int .u8 (x : Int)] 5)
        have HP6 := Lib.hid ((HR.out.below hba).grown hg2 (fun e => by have := hne5 g e.symm; omega))
        have HG6 := Lib.hid (grown_then (grown_below2 HG3.out hba) hg2 (fun q' e => .inr (hne5 q' e)))
        have HO6 := Lib.hid (own_next (o' := acc ++ [eb]) (news := [eb]) hown2 (by simp [Lib.byteCells, HEB.out]) rfl rfl)
        have hc6 := HP6.out.facts
        refine ⟨⟨q', 3, acc ++ [eb], ⟨HP6.out, HO6.out, HG6.out, by simp; omega, .inr ⟨rfl, HN.out⟩⟩⟩, ?_⟩
        rw [hc6.2.2.2.1, hc6.2.1, c2, c1]
        simp
        omega
      | some bn =>
        obtain ⟨eb, n⟩ := bn
        rw [he] at hm
        obtain ⟨rfl, hR⟩ := hm
        have hnl := escR_le _ _ _ he
        have HSN : Hid (quoteR (s.data.toList.drop p) = strR f (acc ++ [eb]) (s.data.toList.drop (q + 1 + n))) := by
          show _ = _
          rw [HV0.out, he]
          simp only [List.drop_drop]
        obtain ⟨x, hx⟩ : ∃ x, eb.toNat = x := ⟨_, rfl⟩
        rw [hx]
        have HEB := Lib.hid hx
        have HR := Lib.hid hR
        clear he hg3 hR hx HV0 CE HG2 HO2
        have hrd5 := reads_row W3 5 [.int .u8 (x : Int)]
        go_wp2_with (at_builtin; refine wpList_append_any (W3.alloc (.cells #[.int .u8 (x : Int)] 5)) rfl (.tmp 58) (.tmp 60) 32 rfl w.heap.size 5 i0 (.int .u8 0) 1 1 Tryz.underlying32 hi hz0 hz1 hz2 rfl (by decide) u3 acc.length (Lib.byteCells acc) rfl (HO3.out.alloc _) (W3.heap.size + 1) _ 1 1 _ rfl hrd5 (by simp [Value.oneCell']) (by unfold maxLen; omega) (by omega) (by simp; omega) ?_; intro v' w2 hown2 hg2 _)
        have hne5 : ∀ q', u3.ownBlock = some q' → w.heap.size ≤ q' := fun q' e => ((HO3.out).lt q' e).1
        have hba := (Below.refl W3.heap.size W3).alloc (Nat.le_refl _) (.cells #[.int .u8 (x : Int)] 5)
        have HP6 := Lib.hid ((HR.out.below hba).grown hg2 (fun e => by have := hne5 g e.symm; omega))
        have HG6 := Lib.hid (grown_then (grown_below2 HG3.out hba) hg2 (fun q' e => .inr (hne5 q' e)))
        have HO6 := Lib.hid (own_next (o' := acc ++ [eb]) (news := [eb]) hown2 (by simp [Lib.byteCells, HEB.out]) rfl rfl)
        have hc6 := HP6.out.facts
        refine ⟨⟨q + 1 + n, 0, acc ++ [eb], ⟨HP6.out, HO6.out, HG6.out, by simp; omega, .inl ⟨rfl, f, by omega, HSN.out⟩⟩⟩, ?_⟩
        rw [hc6.2.2.2.1, hc6.2.1, c2, c1]
        simp
        omega
    case neg =>
      have d92 : ((b : Int) == 92) = false := by simp; omega
      have hn92 : ¬ UInt8.ofNat b = 92 := by simp [← UInt8.toNat_inj]; omega
      have HSN : Hid (quoteR (s.data.toList.drop p) = strR f (acc ++ [UInt8.ofNat b]) (s.data.toList.drop (q + 1))) := by
        show _ = _
        rw [HSR.out, hd, strR, if_neg hne, if_neg hnl, if_neg hn92]
      obtain ⟨eb, heb⟩ : ∃ eb : UInt8, UInt8.ofNat b = eb := ⟨_, rfl⟩
      have HEB : Hid (eb.toNat = b) := by show _ = _; rw [← heb]; simp; omega
      rw [heb] at HSN
      clear hd HSR hnl h32 hne hn92 heb h34 h92
      go_wp2_with fail
      go_quiet (fail)
      revert nq; intro m1
      go_wp2_with fail
      go_quiet (fail)
      have hP2 := HPH.out (m1 + nq)
      have hG2 := HGH.out (m1 + nq)
      have hO2 := HOH.out (m1 + nq)
      obtain ⟨W3, hW3⟩ : ∃ W3, (wr.drewN (m1 + nq)).setCell ⟨g, 1, none⟩ (.int .i64 ((q : Int) + 1)) = W3 := ⟨_, rfl⟩
      rw [hW3] at hP2 hG2 hO2
      have HR := Lib.hid hP2
      have HG3 := Lib.hid hG2
      have HO3 := Lib.hid hO2
      have hls3 := HG3.out.size
      clear hP2 hG2 hO2 HPH HGH HOH
      have hrd5 := reads_row W3 5 [.int .u8 (b : Int)]
      go_wp2_with (at_builtin; refine wpList_append_any (W3.alloc (.cells #[.int .u8 (b : Int)] 5)) rfl (.tmp 58) (.tmp 60) 32 rfl w.heap.size 5 i0 (.int .u8 0) 1 1 Tryz.underlying32 hi hz0 hz1 hz2 rfl (by decide) u3 acc.length (Lib.byteCells acc) rfl (HO3.out.alloc _) (W3.heap.size + 1) _ 1 1 _ rfl hrd5 (by simp [Value.oneCell']) (by unfold maxLen; omega) (by omega) (by simp; omega) ?_; intro v' w2 hown2 hg2 _)
      have hne5 : ∀ q', u3.ownBlock = some q' → w.heap.size ≤ q' := fun q' e => ((HO3.out).lt q' e).1
      have hba := (Below.refl W3.heap.size W3).alloc (Nat.le_refl _) (.cells #[.int .u8 (b : Int)] 5)
      have HP6 := Lib.hid ((HR.out.below hba).grown hg2 (fun e => by have := hne5 g e.symm; omega))
      have HG6 := Lib.hid (grown_then (grown_below2 HG3.out hba) hg2 (fun q' e => .inr (hne5 q' e)))
      have HO6 := Lib.hid (own_next (o' := acc ++ [eb]) (news := [eb]) hown2 (by simp [Lib.byteCells, HEB.out]) rfl rfl)
      have hc6 := HP6.out.facts
      refine ⟨⟨q + 1, 0, acc ++ [eb], ⟨HP6.out, HO6.out, HG6.out, by simp; omega, .inl ⟨rfl, f, by omega, HSN.out⟩⟩⟩, ?_⟩
      rw [hc6.2.2.2.1, hc6.2.1, c2, c1]
      simp
      omega
end Go.Proofs.YtokgkifckgnabaaGreatDoor

/- countersignref12's reader: number. Condition: a text of at most 1000000 bytes. -/
import Derived.Test.YtieppmppdmcleaaGreatDoorBB
import Derived.Test.YtieppmppdmcleaaGreatDoorJ8
set_option linter.unusedVariables false
set_option linter.unusedSimpArgs false
set_option maxRecDepth 20000
namespace Go.Proofs.YtieppmppdmcleaaGreatDoor
open Go.RowKit Go.Maps
def satF : Nat → List UInt8 → Nat
 | n, [] => n
 | n, c :: r => satF (if n ≤ 9007199254740992 then n * 10 + (c.toNat - 48) else n) r
theorem satF_app : ∀ (a b : List UInt8) (n : Nat), satF n (a ++ b) = satF (satF n a) b
 | [], b, n => rfl
 | c :: a, b, n => by rw [List.cons_append, satF, satF, satF_app a b]
theorem satF_dec : ∀ u : Nat, u ≤ 9007199254740992 → satF 0 (Lib.decDigits u) = u
 | u, hu => by
  rw [Lib.decDigits]
  split
  ·
   rename_i h
   have := dig_nat u h
   rw [satF, satF, if_pos (by omega), this]
   omega
  ·
   rename_i h
   have := dig_nat (u % 10) (by omega)
   rw [satF_app, satF_dec (u / 10) (by omega), satF, satF, if_pos (by omega), this]
   omega
termination_by u => u
def digs (l : List UInt8) : List UInt8 := l.takeWhile isDig
def refN (c : UInt8) (r : List UInt8) : Int := if c = 45 then -((satF 0 (digs r) : Nat) : Int) else ((satF 0 (digs (c :: r)) : Nat) : Int)
theorem num_fit (c : UInt8) (r : List UInt8) (hc : c = 45 ∨ isDig c = true) :
  numR c r = if (-9007199254740992 ≤ refN c r ∧ refN c r ≤ 9007199254740992) ∧ Lib.itoa (refN c r) = c :: digs r then some (refN c r, r.dropWhile isDig) else none := by
 by_cases h : (-9007199254740992 ≤ refN c r ∧ refN c r ≤ 9007199254740992) ∧ Lib.itoa (refN c r) = c :: digs r
 ·
  rw [if_pos h, numR]
  have := atoi_itoa (refN c r) h.1.1 h.1.2
  rw [h.2] at this
  have h2 := h.2
  unfold digs at this h2
  rw [this]
  simp only
  rw [if_pos ⟨h.1.1, h.1.2, h2⟩]
 ·
  rw [if_neg h, numR]
  split
  ·
   rename_i n hn
   split
   ·
    rename_i h3
    exfalso
    apply h
    obtain ⟨h4, h5, h6⟩ := h3
    have h45 : isDig 45 = false := by decide +kernel
    have hrn : refN c r = n := by
     unfold refN
     unfold Lib.itoa at h6
     split at h6
     ·
      rename_i h0
      injection h6 with h7 h8
      rw [if_pos h7.symm, digs, ← h8, satF_dec _ (by omega)]
      omega
     ·
      rename_i h0
      have hd : isDig c = true := by
       have := dec_dig n.toNat c (by rw [h6]; simp)
       exact this
      rw [if_neg (by intro e; rw [e, h45] at hd; simp at hd), digs, List.takeWhile_cons_of_pos hd, ← h6, satF_dec _ (by omega)]
      omega
    rw [hrn]
    exact ⟨⟨h4, h5⟩, h6⟩
   ·
    rfl
  ·
   rfl
def NumW (g : Nat) (s : ByteArray) (r : Option (Int × List UInt8)) (w : World) (f : Ending) (w' : World) : Prop :=
 w.grownBy w' (some g) ∧ match r with
  | some (n, r2) => ∃ q, f = .returned (.int .i64 n) ∧ RAt w' g s q 0 ∧ s.data.toList.drop q = r2
  | none => ∃ (n : Int) (q : Nat), f = .returned (.int .i64 n) ∧ RAt w' g s q 3
theorem dig_bits : ∀ b, b < 256 → digitB b = isDig (UInt8.ofNat b) := fun b hb => (by decide +kernel : ∀ b : Fin 256, digitB b.val = isDig (UInt8.ofNat b.val)) ⟨b, hb⟩
theorem dropW_nil : ∀ {l : List UInt8}, digs l = [] → l.dropWhile isDig = l
 | [], _ => rfl
 | c :: r, h => by
  cases hc : isDig c with
  | true => rw [digs, List.takeWhile_cons_of_pos hc] at h; cases h
  | false => rw [List.dropWhile_cons_of_neg (by rw [hc]; simp)]
theorem digs_take : ∀ r : List UInt8, r.take (digs r).length = digs r
 | [] => rfl
 | c :: r => by
  cases hc : isDig c with
  | true => rw [digs, List.takeWhile_cons_of_pos hc, List.length_cons, List.take_succ_cons]; exact congrArg _ (digs_take r)
  | false => rw [digs, List.takeWhile_cons_of_neg (by rw [hc]; simp)]; rfl
set_option maxHeartbeats 16000000 in
theorem rnumber_walk (g : Nat) (s : ByteArray) (p : Nat) (c : UInt8) (r : List UInt8) (hl : s.data.toList.drop p = c :: r) (hc : c = 45 ∨ isDig c = true) (w : World) (h : RAt w g s p 0) :
  Calls Tryz.prog 85 #[.pointer (some ⟨g, 0, none⟩)] w (NumW g s (numR c r) w) := by
 have hsm := h.2.2
 have hgl := h.lt
 obtain ⟨hps, hd1⟩ := drop_succ hl
 have ca := at_walk g s p 0 45 w h
 rw [hl] at ca
 have hat : atB (c :: r) 45 = decide (c = 45) := rfl
 rw [hat] at ca
 obtain ⟨b0, eb0, hb0⟩ : ∃ b : Nat, (s[p]'hps).toNat = b ∧ b < 256 := ⟨_, rfl, (s[p]'hps).toNat_lt⟩
 have hcb : c = UInt8.ofNat b0 := by have := drop_cons hps eb0; rw [hl] at this; injection this
 have i0 := fun W => run_index_at (P := Tryz.prog) 9 Tryz.underlying9 s p b0 hps eb0 W
 obtain ⟨c0, c1, f1, c2, f2⟩ := h.facts
 have H := Lib.hid h
 have HFIT := Lib.hid (num_fit c r hc)
 clear hat h
 by_cases h45 : c = 45
 ·
  have hb45 : b0 = 45 := by rw [h45] at hcb; have := congrArg UInt8.toNat hcb; rw [UInt8.toNat_ofNat', Nat.mod_eq_of_lt hb0] at this; simpa using this.symm
  subst hb45
  have HREF : Hid (refN c r = -((satF 0 (digs (s.data.toList.drop (p + 1))) : Nat) : Int)) := by show _ = _; rw [refN, if_pos h45, hd1]
  have HDW : Hid ((s.data.toList.drop (p + 1)).dropWhile isDig = r.dropWhile isDig) := by show _ = _; rw [hd1]
  have HEX : Hid (∀ q, q = p + 1 + (digs (s.data.toList.drop (p + 1))).length → (s.data.toList.drop p).take (q - p) = c :: digs r) := fun q hq => by
   rw [hd1] at hq
   rw [hl, show q - p = (digs r).length + 1 by omega, List.take_succ_cons, digs_take]
  rw [decide_eq_true h45] at ca
  have CA := Lib.hid ca
  have hput := fun n => (H.out.dn n).put (p + 1) (by omega)
  have HPU := Lib.hid hput
  have hp1 : Hid ((p : Int) + 1 = ((p + 1 : Nat) : Int)) := by show _ = _; omega
  clear ca hput h45 hcb hl hd1
  go_enter Tryz.func85, Tryz.ntmps85
  go_wp2_with fail
  refine CA.out.mono ?_
  rintro _ w1 ⟨rfl, n1, rfl⟩
  have hput := HPU.out n1
  rw [← hp1.out] at hput
  have HR0 := Lib.hid hput.1
  have HG0 := Lib.hid (grown_then (grown_dn (only_refl w (some g)) n1) hput.2 (fun y e => .inl (by injection e with e; exact e.symm)))
  clear hput
  go_wp2_with fail
  go_loopw [4] (fun nv wr => ∃ m q : Nat, nv = .int .i64 (m : Int) ∧ m ≤ 90071992547409929 ∧ (p + 1) ≤ q ∧ q ≤ s.size ∧ Hid (RAt wr g s q 0) ∧ Hid (satF 0 (digs (s.data.toList.drop (p + 1))) = satF m (digs (s.data.toList.drop q))) ∧ Hid ((s.data.toList.drop (p + 1)).dropWhile isDig = (s.data.toList.drop q).dropWhile isDig) ∧ Hid (q + (digs (s.data.toList.drop q)).length = (p + 1) + (digs (s.data.toList.drop (p + 1))).length) ∧ Hid (w.grownBy wr (some g))) (fun _ wr => s.size - (match wr.cell? ⟨g, 1, none⟩ with | some (.int _ n) => n.toNat | _ => 0))
  case atStart => exact ⟨0, (p + 1), rfl, by omega, by omega, by omega, HR0, rfl, rfl, rfl, HG0⟩
  case round =>
   clear HR0 HG0
   obtain ⟨m, q, rfl, hm, hpq0, hqs, hP, hs, hdrop, hlen, hg⟩ := hrel
   obtain ⟨c0, c1, f1, -, -⟩ := hP.out.facts
   by_cases hlt : q < s.size
   ·
    obtain ⟨b, eb, hb2⟩ : ∃ b : Nat, (s[q]'hlt).toNat = b ∧ b < 256 := ⟨_, rfl, (s[q]'hlt).toNat_lt⟩
    have hd := drop_cons hlt eb
    have i1 := fun W => run_index_at (P := Tryz.prog) 9 Tryz.underlying9 s q b hlt eb W
    have ci := fun W => rdigit_walk b W
    have hdb := dig_bits b hb2
    cases hdg : digitB b
    ·
     rw [hdg] at ci hdb
     have CI := Lib.hid ci
     have HFIN : Hid (digs (s.data.toList.drop q) = []) := by show _ = _; rw [hd, digs, List.takeWhile_cons_of_neg (by rw [← hdb]; simp)]
     clear ci hdb hd hdg
     go_wp2_with fail
     go_quiet ((go_at_call 84; refine (CI.out _).mono ?_; rintro e w9 ⟨rfl, rfl⟩; exact ⟨rfl, _, rfl⟩))
     have hmm : satF 0 (digs (s.data.toList.drop (p + 1))) = m := by have := hs.out; rw [HFIN.out, satF] at this; exact this
     have hrn : refN c r = (-(m : Int)) := by rw [HREF.out, hmm]
     have hqq : q = (p + 1) + (digs (s.data.toList.drop (p + 1))).length := by have := hlen.out; rw [HFIN.out, List.length_nil] at this; omega
     have hdq : s.data.toList.drop q = r.dropWhile isDig := by rw [← HDW.out, hdrop.out]; exact (dropW_nil HFIN.out).symm
     have hfit := HFIT.out
     rw [hrn] at hfit
     have hex : (s.extract p q).data.toList = c :: digs r := by rw [extract_list]; exact HEX.out q hqq
     have hql : q ≤ s.size := hP.out.2.1
     have hpq : p ≤ q := by omega
     have HDQ := Lib.hid hdq
     have hfit2 := hfit
     have HXX := Lib.hid hex
     clear hmm hrn hdq hfit hex hqq
     go_wp2_with fail
     generalize hN : (-(m : Int)) = N at hfit2 ⊢
     have HFT2 := Lib.hid hfit2
     clear hfit2
     by_cases hbig : 9007199254740992 < N
     ·
      have g1 : decide (9007199254740992 < N) = true := decide_eq_true hbig
      have hv : Hid (numR c r = none) := by show _ = _; rw [HFT2.out, if_neg (fun h => by omega)]
      have CF := Lib.hid (fun n => fail_walk g s q 0 3 (wr.drewN n) (hP.out.dn n))
      revert nq; intro n2
      go_wp2_with fail
      go_quiet (fail)
      rw [World.drewN_drewN]
      go_wp2_with fail
      refine (CF.out (n2 + nq)).mono ?_
      rintro _ w3 ⟨rfl, hR, hg3⟩
      go_wp2_with fail
      go_ret
      exact ⟨grown_then (grown_dn hg.out (n2 + nq)) hg3 (fun y e => .inl (by injection e with e; exact e.symm)), by rw [hv.out]; exact ⟨N, q, rfl, hR⟩⟩

     by_cases hsml : N < -9007199254740992
     ·
      have g1 : decide (9007199254740992 < N) = false := decide_eq_false hbig
      have g2 : decide (N < -9007199254740992) = true := decide_eq_true hsml
      have hv : Hid (numR c r = none) := by show _ = _; rw [HFT2.out, if_neg (fun h => by omega)]
      have CF := Lib.hid (fun n => fail_walk g s q 0 3 (wr.drewN n) (hP.out.dn n))
      revert nq; intro n2
      go_wp2_with fail
      go_quiet (fail)
      rw [World.drewN_drewN]
      go_wp2_with fail
      refine (CF.out (n2 + nq)).mono ?_
      rintro _ w3 ⟨rfl, hR, hg3⟩
      go_wp2_with fail
      go_ret
      exact ⟨grown_then (grown_dn hg.out (n2 + nq)) hg3 (fun y e => .inl (by injection e with e; exact e.symm)), by rw [hv.out]; exact ⟨N, q, rfl, hR⟩⟩

     have g1 : decide (9007199254740992 < N) = false := decide_eq_false hbig
     have g2 : decide (N < -9007199254740992) = false := decide_eq_false hsml
     obtain ⟨z, hz⟩ : ∃ z : ByteArray, (⟨(Lib.itoa N).toArray⟩ : ByteArray) = z := ⟨_, rfl⟩
     have hcmp : (z.toList == (s.extract p q).toList) = decide (Lib.itoa N = c :: digs r) := by
      rw [ByteArray.toList_eq, ByteArray.toList_eq, HXX.out, ← hz, Bool.eq_iff_iff, beq_iff_eq]; simp
     have cd := fun W => digits_walk N (by omega) W
     rw [hz] at cd
     have CD := Lib.hid cd
     clear cd hz
     have hpqI : (p : Int) ≤ (q : Int) := by omega
     have hqlI : (q : Int) ≤ (s.size : Int) := by omega
     have HRG : Hid (-9007199254740992 ≤ N ∧ N ≤ 9007199254740992) := ⟨by omega, by omega⟩
     by_cases heq : Lib.itoa N = c :: digs r
     ·
      rw [decide_eq_true heq] at hcmp
      have hcmp2 : (!(z.toList == (s.extract p q).toList)) = false := by rw [hcmp]; rfl
      have HV : Hid (numR c r = some (N, r.dropWhile isDig)) := by show _ = _; rw [HFT2.out, if_pos ⟨HRG.out, heq⟩]
      clear heq
      have hPd := (hP.out.dn nq).below (Below.refl (wr.drewN nq).heap.size (wr.drewN nq)).drew
      have hGd := grown_dn hg.out (nq + 1)
      have hS0 := And.intro hPd.facts.1 hPd.facts.2.1
      have HPD := Lib.hid hPd
      have HGD := Lib.hid hGd
      clear hPd hGd
      refine wp_region_held_drew (S := fun W => W.cell? ⟨g, 0, none⟩ = some (.string s) ∧ W.cell? ⟨g, 1, none⟩ = some (.int .i64 (q : Int))) (by kernel_rfl) hS0 (fun hHeld => ?_)
      refine tkr 0 rfl ?_
      try simp only [nrm, Act.put]
      refine tkr 1 rfl ?_
      try simp only [nrm, Act.put]
      refine tkr 2 rfl ?_
      try simp only [nrm, Act.put]
      refine tkr 3 rfl ?_
      try simp only [nrm, Act.put]
      refine tkr 4 rfl ?_
      try simp only [nrm, Act.put]
      refine tkr 5 rfl ?_
      try simp only [nrm, Act.put]
      refine tkr 6 rfl ?_
      try simp only [nrm, Act.put]
      refine tkr 7 rfl ?_
      try simp only [nrm, Act.put]
      refine tkr 9 rfl ?_
      try simp only [nrm, Act.put]
      refine tkr 10 rfl ?_
      try simp only [nrm, Act.put]
      refine tkr 11 rfl ?_
      try simp only [nrm, Act.put]
      refine tkr 12 rfl ?_
      try simp only [nrm, Act.put]
      refine tkr 13 rfl ?_
      try simp only [nrm, Act.put]
      refine tkr 14 rfl ?_
      try simp only [nrm, Act.put]
      refine tkr 15 rfl ?_
      try simp only [nrm, Act.put]
      refine tkr 16 rfl ?_
      try simp only [nrm, Act.put]
      refine tkr 17 rfl ?_
      try simp only [nrm, Act.put]
      refine tkr 18 rfl ?_
      try simp only [nrm, Act.put]
      refine rd1 8 rfl fun K hK => ?_
      go_simp
      refine (CD.out _).mono ?_
      rintro _ W9 ⟨rfl, hb⟩
      go_simp
      have HP9 := Lib.hid (HPD.out.below hb)
      have HG9 := Lib.hid (grown_below2 HGD.out hb)
      refine hK.out _ _ (And.intro HP9.out.facts.1 HP9.out.facts.2.1) (fun hHeld2 => ?_)
      clear hK K hb hHeld hS0
      have hHeld := hHeld2
      clear hHeld2
      try simp only [nrm, Act.put]
      refine tkr 19 rfl ?_
      try simp only [nrm, Act.put]
      refine tkr 20 rfl ?_
      try simp only [nrm, Act.put]
      refine wpAnyH_done (by kernel_rfl) ?_ _
      clear hHeld
      go_wp2_with fail
      go_ret
      exact ⟨HG9.out, by rw [HV.out]; exact ⟨q, rfl, HP9.out, HDQ.out⟩⟩
     ·
      rw [decide_eq_false heq] at hcmp
      have hcmp2 : (!(z.toList == (s.extract p q).toList)) = true := by rw [hcmp]; rfl
      have HV : Hid (numR c r = none) := by show _ = _; rw [HFT2.out, if_neg (fun h => heq h.2)]
      clear heq
      have hPd := (hP.out.dn nq).below (Below.refl (wr.drewN nq).heap.size (wr.drewN nq)).drew
      have hGd := grown_dn hg.out (nq + 1)
      have hS0 := And.intro hPd.facts.1 hPd.facts.2.1
      have HPD := Lib.hid hPd
      have HGD := Lib.hid hGd
      clear hPd hGd
      refine wp_region_held_drew (S := fun W => W.cell? ⟨g, 0, none⟩ = some (.string s) ∧ W.cell? ⟨g, 1, none⟩ = some (.int .i64 (q : Int))) (by kernel_rfl) hS0 (fun hHeld => ?_)
      refine tkr 0 rfl ?_
      try simp only [nrm, Act.put]
      refine tkr 1 rfl ?_
      try simp only [nrm, Act.put]
      refine tkr 2 rfl ?_
      try simp only [nrm, Act.put]
      refine tkr 3 rfl ?_
      try simp only [nrm, Act.put]
      refine tkr 4 rfl ?_
      try simp only [nrm, Act.put]
      refine tkr 5 rfl ?_
      try simp only [nrm, Act.put]
      refine tkr 6 rfl ?_
      try simp only [nrm, Act.put]
      refine tkr 7 rfl ?_
      try simp only [nrm, Act.put]
      refine tkr 9 rfl ?_
      try simp only [nrm, Act.put]
      refine tkr 10 rfl ?_
      try simp only [nrm, Act.put]
      refine tkr 11 rfl ?_
      try simp only [nrm, Act.put]
      refine tkr 12 rfl ?_
      try simp only [nrm, Act.put]
      refine tkr 13 rfl ?_
      try simp only [nrm, Act.put]
      refine tkr 14 rfl ?_
      try simp only [nrm, Act.put]
      refine tkr 15 rfl ?_
      try simp only [nrm, Act.put]
      refine tkr 16 rfl ?_
      try simp only [nrm, Act.put]
      refine tkr 17 rfl ?_
      try simp only [nrm, Act.put]
      refine tkr 18 rfl ?_
      try simp only [nrm, Act.put]
      refine rd1 8 rfl fun K hK => ?_
      go_simp
      refine (CD.out _).mono ?_
      rintro _ W9 ⟨rfl, hb⟩
      go_simp
      have HP9 := Lib.hid (HPD.out.below hb)
      have HG9 := Lib.hid (grown_below2 HGD.out hb)
      refine hK.out _ _ (And.intro HP9.out.facts.1 HP9.out.facts.2.1) (fun hHeld2 => ?_)
      clear hK K hb hHeld hS0
      have hHeld := hHeld2
      clear hHeld2
      try simp only [nrm, Act.put]
      refine tkr 19 rfl ?_
      try simp only [nrm, Act.put]
      refine tkr 20 rfl ?_
      try simp only [nrm, Act.put]
      refine wpAnyH_done (by kernel_rfl) ?_ _
      clear hHeld
      have CF := Lib.hid (fail_walk g s q 0 3 W9 HP9.out)
      go_wp2_with fail
      refine CF.out.mono ?_
      rintro _ w3 ⟨rfl, hR, hg3⟩
      go_wp2_with fail
      go_ret
      exact ⟨grown_then HG9.out hg3 (fun y e => .inl (by injection e with e; exact e.symm)), by rw [HV.out]; exact ⟨N, q, rfl, hR⟩⟩
    ·
     rw [hdg] at ci hdb
     have CI := Lib.hid ci
     obtain ⟨hb3, hb4⟩ : 48 ≤ b ∧ b ≤ 57 := by simpa [digitB] using hdg
     have hbn : (UInt8.ofNat b).toNat = b := by simp; omega
     have HSAT : Hid (satF m (digs (s.data.toList.drop q)) = satF (if m ≤ 9007199254740992 then m * 10 + (b - 48) else m) (digs (s.data.toList.drop (q + 1)))) := by show _ = _; rw [hd, digs, List.takeWhile_cons_of_pos hdb.symm, satF, hbn]; rfl
     have HDR : Hid ((s.data.toList.drop q).dropWhile isDig = (s.data.toList.drop (q + 1)).dropWhile isDig) := by show _ = _; rw [hd, List.dropWhile_cons_of_pos hdb.symm]
     have HLN : Hid ((digs (s.data.toList.drop q)).length = (digs (s.data.toList.drop (q + 1))).length + 1) := by show _ = _; rw [hd, digs, List.takeWhile_cons_of_pos hdb.symm, List.length_cons]; rfl
     have hq1 : Hid ((q : Int) + 1 = ((q + 1 : Nat) : Int)) := by show _ = _; omega
     have HPH := Lib.hid (fun n => (hP.out.dn n).put (q + 1) (by omega))
     have HS2 := Lib.hid (hs.out.trans HSAT.out)
     have HD2 := Lib.hid (hdrop.out.trans HDR.out)
     have HL2 : Hid (q + 1 + (digs (s.data.toList.drop (q + 1))).length = (p + 1) + (digs (s.data.toList.drop (p + 1))).length) := by have := hlen.out; have e := HLN.out; show _ = _; omega
     clear ci hdb hd hdg HSAT HDR HLN hs hdrop hlen hbn
     by_cases hmx : m ≤ 9007199254740992
     ·
      have HS3 := HS2
      rw [if_pos hmx] at HS3
      have hmI : (m : Int) ≤ 9007199254740992 := by omega
      have u1 : IntKind.u8.wrap ((b : Int) - 48) = ((b - 48 : Nat) : Int) := by rw [wrap_u8]; omega
      go_wp2_with fail
      go_quiet ((go_at_call 84; refine (CI.out _).mono ?_; rintro e w9 ⟨rfl, rfl⟩; exact ⟨rfl, _, rfl⟩))
      revert nq; intro n1
      go_wp2_with fail
      go_quiet (fail)
      have hput := HPH.out (n1 + nq)
      rw [← hq1.out] at hput
      have hgg := grown_then (grown_dn hg.out (n1 + nq)) hput.2 (fun y e => by injection e with e; exact .inl e.symm)
      have hcell := hput.1.facts.2.1
      have HA := Lib.hid hput.1
      have HG := Lib.hid hgg
      clear hput hgg HPH
      go_wp2_with fail
      refine ⟨⟨m * 10 + (b - 48), q + 1, by go_num, by omega, by omega, by omega, HA, HS3, HD2, HL2, HG⟩, ?_⟩
      rw [hcell, c1]
      simp
      omega
     ·
      have HS3 := HS2
      rw [if_neg hmx] at HS3
      have hmI : ¬ (m : Int) ≤ 9007199254740992 := by omega
      go_wp2_with fail
      go_quiet ((go_at_call 84; refine (CI.out _).mono ?_; rintro e w9 ⟨rfl, rfl⟩; exact ⟨rfl, _, rfl⟩))
      have hput := HPH.out nq
      rw [← hq1.out] at hput
      have hgg := grown_then (grown_dn hg.out nq) hput.2 (fun y e => by injection e with e; exact .inl e.symm)
      have hcell := hput.1.facts.2.1
      have HA := Lib.hid hput.1
      have HG := Lib.hid hgg
      clear hput hgg HPH
      go_wp2_with fail
      refine ⟨⟨m, q + 1, rfl, by omega, by omega, by omega, HA, HS3, HD2, HL2, HG⟩, ?_⟩
      rw [hcell, c1]
      simp
      omega
   ·
    obtain rfl : q = s.size := by omega
    have HFIN : Hid (digs (s.data.toList.drop s.size) = []) := by show _ = _; rw [drop_end (Nat.lt_irrefl _)]; rfl
    go_wp2_with fail
    go_quiet (fail)
    have hmm : satF 0 (digs (s.data.toList.drop (p + 1))) = m := by have := hs.out; rw [HFIN.out, satF] at this; exact this
    have hrn : refN c r = (-(m : Int)) := by rw [HREF.out, hmm]
    have hqq : s.size = (p + 1) + (digs (s.data.toList.drop (p + 1))).length := by have := hlen.out; rw [HFIN.out, List.length_nil] at this; omega
    have hdq : s.data.toList.drop s.size = r.dropWhile isDig := by rw [← HDW.out, hdrop.out]; exact (dropW_nil HFIN.out).symm
    have hfit := HFIT.out
    rw [hrn] at hfit
    have hex : (s.extract p s.size).data.toList = c :: digs r := by rw [extract_list]; exact HEX.out s.size hqq
    have hql : s.size ≤ s.size := hP.out.2.1
    have hpq : p ≤ s.size := by omega
    have HDQ := Lib.hid hdq
    have hfit2 := hfit
    have HXX := Lib.hid hex
    clear hmm hrn hdq hfit hex hqq
    go_wp2_with fail
    generalize hN : (-(m : Int)) = N at hfit2 ⊢
    have HFT2 := Lib.hid hfit2
    clear hfit2
    by_cases hbig : 9007199254740992 < N
    ·
     have g1 : decide (9007199254740992 < N) = true := decide_eq_true hbig
     have hv : Hid (numR c r = none) := by show _ = _; rw [HFT2.out, if_neg (fun h => by omega)]
     have CF := Lib.hid (fun n => fail_walk g s s.size 0 3 (wr.drewN n) (hP.out.dn n))
     revert nq; intro n2
     go_wp2_with fail
     go_quiet (fail)
     rw [World.drewN_drewN]
     go_wp2_with fail
     refine (CF.out (n2 + nq)).mono ?_
     rintro _ w3 ⟨rfl, hR, hg3⟩
     go_wp2_with fail
     go_ret
     exact ⟨grown_then (grown_dn hg.out (n2 + nq)) hg3 (fun y e => .inl (by injection e with e; exact e.symm)), by rw [hv.out]; exact ⟨N, s.size, rfl, hR⟩⟩

    by_cases hsml : N < -9007199254740992
    ·
     have g1 : decide (9007199254740992 < N) = false := decide_eq_false hbig
     have g2 : decide (N < -9007199254740992) = true := decide_eq_true hsml
     have hv : Hid (numR c r = none) := by show _ = _; rw [HFT2.out, if_neg (fun h => by omega)]
     have CF := Lib.hid (fun n => fail_walk g s s.size 0 3 (wr.drewN n) (hP.out.dn n))
     revert nq; intro n2
     go_wp2_with fail
     go_quiet (fail)
     rw [World.drewN_drewN]
     go_wp2_with fail
     refine (CF.out (n2 + nq)).mono ?_
     rintro _ w3 ⟨rfl, hR, hg3⟩
     go_wp2_with fail
     go_ret
     exact ⟨grown_then (grown_dn hg.out (n2 + nq)) hg3 (fun y e => .inl (by injection e with e; exact e.symm)), by rw [hv.out]; exact ⟨N, s.size, rfl, hR⟩⟩

    have g1 : decide (9007199254740992 < N) = false := decide_eq_false hbig
    have g2 : decide (N < -9007199254740992) = false := decide_eq_false hsml
    obtain ⟨z, hz⟩ : ∃ z : ByteArray, (⟨(Lib.itoa N).toArray⟩ : ByteArray) = z := ⟨_, rfl⟩
    have hcmp : (z.toList == (s.extract p s.size).toList) = decide (Lib.itoa N = c :: digs r) := by
     rw [ByteArray.toList_eq, ByteArray.toList_eq, HXX.out, ← hz, Bool.eq_iff_iff, beq_iff_eq]; simp
    have cd := fun W => digits_walk N (by omega) W
    rw [hz] at cd
    have CD := Lib.hid cd
    clear cd hz
    have hpqI : (p : Int) ≤ (s.size : Int) := by omega
    have hqlI : (s.size : Int) ≤ (s.size : Int) := by omega
    have HRG : Hid (-9007199254740992 ≤ N ∧ N ≤ 9007199254740992) := ⟨by omega, by omega⟩
    by_cases heq : Lib.itoa N = c :: digs r
    ·
     rw [decide_eq_true heq] at hcmp
     have hcmp2 : (!(z.toList == (s.extract p s.size).toList)) = false := by rw [hcmp]; rfl
     have HV : Hid (numR c r = some (N, r.dropWhile isDig)) := by show _ = _; rw [HFT2.out, if_pos ⟨HRG.out, heq⟩]
     clear heq
     have hPd := (hP.out.dn nq).below (Below.refl (wr.drewN nq).heap.size (wr.drewN nq)).drew
     have hGd := grown_dn hg.out (nq + 1)
     have hS0 := And.intro hPd.facts.1 hPd.facts.2.1
     have HPD := Lib.hid hPd
     have HGD := Lib.hid hGd
     clear hPd hGd
     refine wp_region_held_drew (S := fun W => W.cell? ⟨g, 0, none⟩ = some (.string s) ∧ W.cell? ⟨g, 1, none⟩ = some (.int .i64 (s.size : Int))) (by kernel_rfl) hS0 (fun hHeld => ?_)
     refine tkr 0 rfl ?_
     try simp only [nrm, Act.put]
     refine tkr 1 rfl ?_
     try simp only [nrm, Act.put]
     refine tkr 2 rfl ?_
     try simp only [nrm, Act.put]
     refine tkr 3 rfl ?_
     try simp only [nrm, Act.put]
     refine tkr 4 rfl ?_
     try simp only [nrm, Act.put]
     refine tkr 5 rfl ?_
     try simp only [nrm, Act.put]
     refine tkr 6 rfl ?_
     try simp only [nrm, Act.put]
     refine tkr 7 rfl ?_
     try simp only [nrm, Act.put]
     refine tkr 9 rfl ?_
     try simp only [nrm, Act.put]
     refine tkr 10 rfl ?_
     try simp only [nrm, Act.put]
     refine tkr 11 rfl ?_
     try simp only [nrm, Act.put]
     refine tkr 12 rfl ?_
     try simp only [nrm, Act.put]
     refine tkr 13 rfl ?_
     try simp only [nrm, Act.put]
     refine tkr 14 rfl ?_
     try simp only [nrm, Act.put]
     refine tkr 15 rfl ?_
     try simp only [nrm, Act.put]
     refine tkr 16 rfl ?_
     try simp only [nrm, Act.put]
     refine tkr 17 rfl ?_
     try simp only [nrm, Act.put]
     refine tkr 18 rfl ?_
     try simp only [nrm, Act.put]
     refine rd1 8 rfl fun K hK => ?_
     go_simp
     refine (CD.out _).mono ?_
     rintro _ W9 ⟨rfl, hb⟩
     go_simp
     have HP9 := Lib.hid (HPD.out.below hb)
     have HG9 := Lib.hid (grown_below2 HGD.out hb)
     refine hK.out _ _ (And.intro HP9.out.facts.1 HP9.out.facts.2.1) (fun hHeld2 => ?_)
     clear hK K hb hHeld hS0
     have hHeld := hHeld2
     clear hHeld2
     try simp only [nrm, Act.put]
     refine tkr 19 rfl ?_
     try simp only [nrm, Act.put]
     refine tkr 20 rfl ?_
     try simp only [nrm, Act.put]
     refine wpAnyH_done (by kernel_rfl) ?_ _
     clear hHeld
     go_wp2_with fail
     go_ret
     exact ⟨HG9.out, by rw [HV.out]; exact ⟨s.size, rfl, HP9.out, HDQ.out⟩⟩
    ·
     rw [decide_eq_false heq] at hcmp
     have hcmp2 : (!(z.toList == (s.extract p s.size).toList)) = true := by rw [hcmp]; rfl
     have HV : Hid (numR c r = none) := by show _ = _; rw [HFT2.out, if_neg (fun h => heq h.2)]
     clear heq
     have hPd := (hP.out.dn nq).below (Below.refl (wr.drewN nq).heap.size (wr.drewN nq)).drew
     have hGd := grown_dn hg.out (nq + 1)
     have hS0 := And.intro hPd.facts.1 hPd.facts.2.1
     have HPD := Lib.hid hPd
     have HGD := Lib.hid hGd
     clear hPd hGd
     refine wp_region_held_drew (S := fun W => W.cell? ⟨g, 0, none⟩ = some (.string s) ∧ W.cell? ⟨g, 1, none⟩ = some (.int .i64 (s.size : Int))) (by kernel_rfl) hS0 (fun hHeld => ?_)
     refine tkr 0 rfl ?_
     try simp only [nrm, Act.put]
     refine tkr 1 rfl ?_
     try simp only [nrm, Act.put]
     refine tkr 2 rfl ?_
     try simp only [nrm, Act.put]
     refine tkr 3 rfl ?_
     try simp only [nrm, Act.put]
     refine tkr 4 rfl ?_
     try simp only [nrm, Act.put]
     refine tkr 5 rfl ?_
     try simp only [nrm, Act.put]
     refine tkr 6 rfl ?_
     try simp only [nrm, Act.put]
     refine tkr 7 rfl ?_
     try simp only [nrm, Act.put]
     refine tkr 9 rfl ?_
     try simp only [nrm, Act.put]
     refine tkr 10 rfl ?_
     try simp only [nrm, Act.put]
     refine tkr 11 rfl ?_
     try simp only [nrm, Act.put]
     refine tkr 12 rfl ?_
     try simp only [nrm, Act.put]
     refine tkr 13 rfl ?_
     try simp only [nrm, Act.put]
     refine tkr 14 rfl ?_
     try simp only [nrm, Act.put]
     refine tkr 15 rfl ?_
     try simp only [nrm, Act.put]
     refine tkr 16 rfl ?_
     try simp only [nrm, Act.put]
     refine tkr 17 rfl ?_
     try simp only [nrm, Act.put]
     refine tkr 18 rfl ?_
     try simp only [nrm, Act.put]
     refine rd1 8 rfl fun K hK => ?_
     go_simp
     refine (CD.out _).mono ?_
     rintro _ W9 ⟨rfl, hb⟩
     go_simp
     have HP9 := Lib.hid (HPD.out.below hb)
     have HG9 := Lib.hid (grown_below2 HGD.out hb)
     refine hK.out _ _ (And.intro HP9.out.facts.1 HP9.out.facts.2.1) (fun hHeld2 => ?_)
     clear hK K hb hHeld hS0
     have hHeld := hHeld2
     clear hHeld2
     try simp only [nrm, Act.put]
     refine tkr 19 rfl ?_
     try simp only [nrm, Act.put]
     refine tkr 20 rfl ?_
     try simp only [nrm, Act.put]
     refine wpAnyH_done (by kernel_rfl) ?_ _
     clear hHeld
     have CF := Lib.hid (fail_walk g s s.size 0 3 W9 HP9.out)
     go_wp2_with fail
     refine CF.out.mono ?_
     rintro _ w3 ⟨rfl, hR, hg3⟩
     go_wp2_with fail
     go_ret
     exact ⟨grown_then HG9.out hg3 (fun y e => .inl (by injection e with e; exact e.symm)), by rw [HV.out]; exact ⟨N, s.size, rfl, hR⟩⟩
 ·
  have hcd : isDig c = true := by rcases hc with h | h; exact absurd h h45; exact h
  have hb45 : b0 ≠ 45 := fun e => h45 (by rw [hcb, e]; rfl)
  have e45 : ((b0 : Int) == 45) = false := by rw [beq_eq_false_iff_ne]; omega
  have HREF : Hid (refN c r = ((satF 0 (digs (s.data.toList.drop p)) : Nat) : Int)) := by show _ = _; rw [refN, if_neg h45, hl]
  have HDW : Hid ((s.data.toList.drop p).dropWhile isDig = r.dropWhile isDig) := by show _ = _; rw [hl, List.dropWhile_cons_of_pos hcd]
  have HEX : Hid (∀ q, q = p + (digs (s.data.toList.drop p)).length → (s.data.toList.drop p).take (q - p) = c :: digs r) := fun q hq => by
   rw [hl, digs, List.takeWhile_cons_of_pos hcd, List.length_cons] at hq
   rw [hl, show q - p = (digs r).length + 1 by rw [hq, digs]; omega, List.take_succ_cons, digs_take]
  rw [decide_eq_false h45] at ca
  have CA := Lib.hid ca
  clear ca h45 hcb hl hd1 hcd
  go_enter Tryz.func85, Tryz.ntmps85
  go_wp2_with fail
  refine CA.out.mono ?_
  rintro _ w1 ⟨rfl, n1, rfl⟩
  have HR0 := Lib.hid (H.out.dn n1)
  have HG0 := Lib.hid (grown_dn (only_refl w (some g)) n1)
  go_wp2_with fail
  go_loopw [4] (fun nv wr => ∃ m q : Nat, nv = .int .i64 (m : Int) ∧ m ≤ 90071992547409929 ∧ p ≤ q ∧ q ≤ s.size ∧ Hid (RAt wr g s q 0) ∧ Hid (satF 0 (digs (s.data.toList.drop p)) = satF m (digs (s.data.toList.drop q))) ∧ Hid ((s.data.toList.drop p).dropWhile isDig = (s.data.toList.drop q).dropWhile isDig) ∧ Hid (q + (digs (s.data.toList.drop q)).length = p + (digs (s.data.toList.drop p)).length) ∧ Hid (w.grownBy wr (some g))) (fun _ wr => s.size - (match wr.cell? ⟨g, 1, none⟩ with | some (.int _ n) => n.toNat | _ => 0))
  case atStart => exact ⟨0, p, rfl, by omega, by omega, by omega, HR0, rfl, rfl, rfl, HG0⟩
  case round =>
   clear HR0 HG0
   obtain ⟨m, q, rfl, hm, hpq0, hqs, hP, hs, hdrop, hlen, hg⟩ := hrel
   obtain ⟨c0, c1, f1, -, -⟩ := hP.out.facts
   by_cases hlt : q < s.size
   ·
    obtain ⟨b, eb, hb2⟩ : ∃ b : Nat, (s[q]'hlt).toNat = b ∧ b < 256 := ⟨_, rfl, (s[q]'hlt).toNat_lt⟩
    have hd := drop_cons hlt eb
    have i1 := fun W => run_index_at (P := Tryz.prog) 9 Tryz.underlying9 s q b hlt eb W
    have ci := fun W => rdigit_walk b W
    have hdb := dig_bits b hb2
    cases hdg : digitB b
    ·
     rw [hdg] at ci hdb
     have CI := Lib.hid ci
     have HFIN : Hid (digs (s.data.toList.drop q) = []) := by show _ = _; rw [hd, digs, List.takeWhile_cons_of_neg (by rw [← hdb]; simp)]
     clear ci hdb hd hdg
     go_wp2_with fail
     go_quiet ((go_at_call 84; refine (CI.out _).mono ?_; rintro e w9 ⟨rfl, rfl⟩; exact ⟨rfl, _, rfl⟩))
     have hmm : satF 0 (digs (s.data.toList.drop p)) = m := by have := hs.out; rw [HFIN.out, satF] at this; exact this
     have hrn : refN c r = (m : Int) := by rw [HREF.out, hmm]
     have hqq : q = p + (digs (s.data.toList.drop p)).length := by have := hlen.out; rw [HFIN.out, List.length_nil] at this; omega
     have hdq : s.data.toList.drop q = r.dropWhile isDig := by rw [← HDW.out, hdrop.out]; exact (dropW_nil HFIN.out).symm
     have hfit := HFIT.out
     rw [hrn] at hfit
     have hex : (s.extract p q).data.toList = c :: digs r := by rw [extract_list]; exact HEX.out q hqq
     have hql : q ≤ s.size := hP.out.2.1
     have hpq : p ≤ q := by omega
     have HDQ := Lib.hid hdq
     have hfit2 := hfit
     have HXX := Lib.hid hex
     clear hmm hrn hdq hfit hex hqq
     go_wp2_with fail
     generalize hN : (m : Int) = N at hfit2 ⊢
     have HFT2 := Lib.hid hfit2
     clear hfit2
     by_cases hbig : 9007199254740992 < N
     ·
      have g1 : decide (9007199254740992 < N) = true := decide_eq_true hbig
      have hv : Hid (numR c r = none) := by show _ = _; rw [HFT2.out, if_neg (fun h => by omega)]
      have CF := Lib.hid (fun n => fail_walk g s q 0 3 (wr.drewN n) (hP.out.dn n))
      revert nq; intro n2
      go_wp2_with fail
      go_quiet (fail)
      rw [World.drewN_drewN]
      go_wp2_with fail
      refine (CF.out (n2 + nq)).mono ?_
      rintro _ w3 ⟨rfl, hR, hg3⟩
      go_wp2_with fail
      go_ret
      exact ⟨grown_then (grown_dn hg.out (n2 + nq)) hg3 (fun y e => .inl (by injection e with e; exact e.symm)), by rw [hv.out]; exact ⟨N, q, rfl, hR⟩⟩

     by_cases hsml : N < -9007199254740992
     ·
      have g1 : decide (9007199254740992 < N) = false := decide_eq_false hbig
      have g2 : decide (N < -9007199254740992) = true := decide_eq_true hsml
      have hv : Hid (numR c r = none) := by show _ = _; rw [HFT2.out, if_neg (fun h => by omega)]
      have CF := Lib.hid (fun n => fail_walk g s q 0 3 (wr.drewN n) (hP.out.dn n))
      revert nq; intro n2
      go_wp2_with fail
      go_quiet (fail)
      rw [World.drewN_drewN]
      go_wp2_with fail
      refine (CF.out (n2 + nq)).mono ?_
      rintro _ w3 ⟨rfl, hR, hg3⟩
      go_wp2_with fail
      go_ret
      exact ⟨grown_then (grown_dn hg.out (n2 + nq)) hg3 (fun y e => .inl (by injection e with e; exact e.symm)), by rw [hv.out]; exact ⟨N, q, rfl, hR⟩⟩

     have g1 : decide (9007199254740992 < N) = false := decide_eq_false hbig
     have g2 : decide (N < -9007199254740992) = false := decide_eq_false hsml
     obtain ⟨z, hz⟩ : ∃ z : ByteArray, (⟨(Lib.itoa N).toArray⟩ : ByteArray) = z := ⟨_, rfl⟩
     have hcmp : (z.toList == (s.extract p q).toList) = decide (Lib.itoa N = c :: digs r) := by
      rw [ByteArray.toList_eq, ByteArray.toList_eq, HXX.out, ← hz, Bool.eq_iff_iff, beq_iff_eq]; simp
     have cd := fun W => digits_walk N (by omega) W
     rw [hz] at cd
     have CD := Lib.hid cd
     clear cd hz
     have hpqI : (p : Int) ≤ (q : Int) := by omega
     have hqlI : (q : Int) ≤ (s.size : Int) := by omega
     have HRG : Hid (-9007199254740992 ≤ N ∧ N ≤ 9007199254740992) := ⟨by omega, by omega⟩
     by_cases heq : Lib.itoa N = c :: digs r
     ·
      rw [decide_eq_true heq] at hcmp
      have hcmp2 : (!(z.toList == (s.extract p q).toList)) = false := by rw [hcmp]; rfl
      have HV : Hid (numR c r = some (N, r.dropWhile isDig)) := by show _ = _; rw [HFT2.out, if_pos ⟨HRG.out, heq⟩]
      clear heq
      have hPd := (hP.out.dn nq).below (Below.refl (wr.drewN nq).heap.size (wr.drewN nq)).drew
      have hGd := grown_dn hg.out (nq + 1)
      have hS0 := And.intro hPd.facts.1 hPd.facts.2.1
      have HPD := Lib.hid hPd
      have HGD := Lib.hid hGd
      clear hPd hGd
      refine wp_region_held_drew (S := fun W => W.cell? ⟨g, 0, none⟩ = some (.string s) ∧ W.cell? ⟨g, 1, none⟩ = some (.int .i64 (q : Int))) (by kernel_rfl) hS0 (fun hHeld => ?_)
      refine tkr 0 rfl ?_
      try simp only [nrm, Act.put]
      refine tkr 1 rfl ?_
      try simp only [nrm, Act.put]
      refine tkr 2 rfl ?_
      try simp only [nrm, Act.put]
      refine tkr 3 rfl ?_
      try simp only [nrm, Act.put]
      refine tkr 4 rfl ?_
      try simp only [nrm, Act.put]
      refine tkr 5 rfl ?_
      try simp only [nrm, Act.put]
      refine tkr 6 rfl ?_
      try simp only [nrm, Act.put]
      refine tkr 7 rfl ?_
      try simp only [nrm, Act.put]
      refine tkr 9 rfl ?_
      try simp only [nrm, Act.put]
      refine tkr 10 rfl ?_
      try simp only [nrm, Act.put]
      refine tkr 11 rfl ?_
      try simp only [nrm, Act.put]
      refine tkr 12 rfl ?_
      try simp only [nrm, Act.put]
      refine tkr 13 rfl ?_
      try simp only [nrm, Act.put]
      refine tkr 14 rfl ?_
      try simp only [nrm, Act.put]
      refine tkr 15 rfl ?_
      try simp only [nrm, Act.put]
      refine tkr 16 rfl ?_
      try simp only [nrm, Act.put]
      refine tkr 17 rfl ?_
      try simp only [nrm, Act.put]
      refine tkr 18 rfl ?_
      try simp only [nrm, Act.put]
      refine rd1 8 rfl fun K hK => ?_
      go_simp
      refine (CD.out _).mono ?_
      rintro _ W9 ⟨rfl, hb⟩
      go_simp
      have HP9 := Lib.hid (HPD.out.below hb)
      have HG9 := Lib.hid (grown_below2 HGD.out hb)
      refine hK.out _ _ (And.intro HP9.out.facts.1 HP9.out.facts.2.1) (fun hHeld2 => ?_)
      clear hK K hb hHeld hS0
      have hHeld := hHeld2
      clear hHeld2
      try simp only [nrm, Act.put]
      refine tkr 19 rfl ?_
      try simp only [nrm, Act.put]
      refine tkr 20 rfl ?_
      try simp only [nrm, Act.put]
      refine wpAnyH_done (by kernel_rfl) ?_ _
      clear hHeld
      go_wp2_with fail
      go_ret
      exact ⟨HG9.out, by rw [HV.out]; exact ⟨q, rfl, HP9.out, HDQ.out⟩⟩
     ·
      rw [decide_eq_false heq] at hcmp
      have hcmp2 : (!(z.toList == (s.extract p q).toList)) = true := by rw [hcmp]; rfl
      have HV : Hid (numR c r = none) := by show _ = _; rw [HFT2.out, if_neg (fun h => heq h.2)]
      clear heq
      have hPd := (hP.out.dn nq).below (Below.refl (wr.drewN nq).heap.size (wr.drewN nq)).drew
      have hGd := grown_dn hg.out (nq + 1)
      have hS0 := And.intro hPd.facts.1 hPd.facts.2.1
      have HPD := Lib.hid hPd
      have HGD := Lib.hid hGd
      clear hPd hGd
      refine wp_region_held_drew (S := fun W => W.cell? ⟨g, 0, none⟩ = some (.string s) ∧ W.cell? ⟨g, 1, none⟩ = some (.int .i64 (q : Int))) (by kernel_rfl) hS0 (fun hHeld => ?_)
      refine tkr 0 rfl ?_
      try simp only [nrm, Act.put]
      refine tkr 1 rfl ?_
      try simp only [nrm, Act.put]
      refine tkr 2 rfl ?_
      try simp only [nrm, Act.put]
      refine tkr 3 rfl ?_
      try simp only [nrm, Act.put]
      refine tkr 4 rfl ?_
      try simp only [nrm, Act.put]
      refine tkr 5 rfl ?_
      try simp only [nrm, Act.put]
      refine tkr 6 rfl ?_
      try simp only [nrm, Act.put]
      refine tkr 7 rfl ?_
      try simp only [nrm, Act.put]
      refine tkr 9 rfl ?_
      try simp only [nrm, Act.put]
      refine tkr 10 rfl ?_
      try simp only [nrm, Act.put]
      refine tkr 11 rfl ?_
      try simp only [nrm, Act.put]
      refine tkr 12 rfl ?_
      try simp only [nrm, Act.put]
      refine tkr 13 rfl ?_
      try simp only [nrm, Act.put]
      refine tkr 14 rfl ?_
      try simp only [nrm, Act.put]
      refine tkr 15 rfl ?_
      try simp only [nrm, Act.put]
      refine tkr 16 rfl ?_
      try simp only [nrm, Act.put]
      refine tkr 17 rfl ?_
      try simp only [nrm, Act.put]
      refine tkr 18 rfl ?_
      try simp only [nrm, Act.put]
      refine rd1 8 rfl fun K hK => ?_
      go_simp
      refine (CD.out _).mono ?_
      rintro _ W9 ⟨rfl, hb⟩
      go_simp
      have HP9 := Lib.hid (HPD.out.below hb)
      have HG9 := Lib.hid (grown_below2 HGD.out hb)
      refine hK.out _ _ (And.intro HP9.out.facts.1 HP9.out.facts.2.1) (fun hHeld2 => ?_)
      clear hK K hb hHeld hS0
      have hHeld := hHeld2
      clear hHeld2
      try simp only [nrm, Act.put]
      refine tkr 19 rfl ?_
      try simp only [nrm, Act.put]
      refine tkr 20 rfl ?_
      try simp only [nrm, Act.put]
      refine wpAnyH_done (by kernel_rfl) ?_ _
      clear hHeld
      have CF := Lib.hid (fail_walk g s q 0 3 W9 HP9.out)
      go_wp2_with fail
      refine CF.out.mono ?_
      rintro _ w3 ⟨rfl, hR, hg3⟩
      go_wp2_with fail
      go_ret
      exact ⟨grown_then HG9.out hg3 (fun y e => .inl (by injection e with e; exact e.symm)), by rw [HV.out]; exact ⟨N, q, rfl, hR⟩⟩
    ·
     rw [hdg] at ci hdb
     have CI := Lib.hid ci
     obtain ⟨hb3, hb4⟩ : 48 ≤ b ∧ b ≤ 57 := by simpa [digitB] using hdg
     have hbn : (UInt8.ofNat b).toNat = b := by simp; omega
     have HSAT : Hid (satF m (digs (s.data.toList.drop q)) = satF (if m ≤ 9007199254740992 then m * 10 + (b - 48) else m) (digs (s.data.toList.drop (q + 1)))) := by show _ = _; rw [hd, digs, List.takeWhile_cons_of_pos hdb.symm, satF, hbn]; rfl
     have HDR : Hid ((s.data.toList.drop q).dropWhile isDig = (s.data.toList.drop (q + 1)).dropWhile isDig) := by show _ = _; rw [hd, List.dropWhile_cons_of_pos hdb.symm]
     have HLN : Hid ((digs (s.data.toList.drop q)).length = (digs (s.data.toList.drop (q + 1))).length + 1) := by show _ = _; rw [hd, digs, List.takeWhile_cons_of_pos hdb.symm, List.length_cons]; rfl
     have hq1 : Hid ((q : Int) + 1 = ((q + 1 : Nat) : Int)) := by show _ = _; omega
     have HPH := Lib.hid (fun n => (hP.out.dn n).put (q + 1) (by omega))
     have HS2 := Lib.hid (hs.out.trans HSAT.out)
     have HD2 := Lib.hid (hdrop.out.trans HDR.out)
     have HL2 : Hid (q + 1 + (digs (s.data.toList.drop (q + 1))).length = p + (digs (s.data.toList.drop p)).length) := by have := hlen.out; have e := HLN.out; show _ = _; omega
     clear ci hdb hd hdg HSAT HDR HLN hs hdrop hlen hbn
     by_cases hmx : m ≤ 9007199254740992
     ·
      have HS3 := HS2
      rw [if_pos hmx] at HS3
      have hmI : (m : Int) ≤ 9007199254740992 := by omega
      have u1 : IntKind.u8.wrap ((b : Int) - 48) = ((b - 48 : Nat) : Int) := by rw [wrap_u8]; omega
      go_wp2_with fail
      go_quiet ((go_at_call 84; refine (CI.out _).mono ?_; rintro e w9 ⟨rfl, rfl⟩; exact ⟨rfl, _, rfl⟩))
      revert nq; intro n1
      go_wp2_with fail
      go_quiet (fail)
      have hput := HPH.out (n1 + nq)
      rw [← hq1.out] at hput
      have hgg := grown_then (grown_dn hg.out (n1 + nq)) hput.2 (fun y e => by injection e with e; exact .inl e.symm)
      have hcell := hput.1.facts.2.1
      have HA := Lib.hid hput.1
      have HG := Lib.hid hgg
      clear hput hgg HPH
      go_wp2_with fail
      refine ⟨⟨m * 10 + (b - 48), q + 1, by go_num, by omega, by omega, by omega, HA, HS3, HD2, HL2, HG⟩, ?_⟩
      rw [hcell, c1]
      simp
      omega
     ·
      have HS3 := HS2
      rw [if_neg hmx] at HS3
      have hmI : ¬ (m : Int) ≤ 9007199254740992 := by omega
      go_wp2_with fail
      go_quiet ((go_at_call 84; refine (CI.out _).mono ?_; rintro e w9 ⟨rfl, rfl⟩; exact ⟨rfl, _, rfl⟩))
      have hput := HPH.out nq
      rw [← hq1.out] at hput
      have hgg := grown_then (grown_dn hg.out nq) hput.2 (fun y e => by injection e with e; exact .inl e.symm)
      have hcell := hput.1.facts.2.1
      have HA := Lib.hid hput.1
      have HG := Lib.hid hgg
      clear hput hgg HPH
      go_wp2_with fail
      refine ⟨⟨m, q + 1, rfl, by omega, by omega, by omega, HA, HS3, HD2, HL2, HG⟩, ?_⟩
      rw [hcell, c1]
      simp
      omega
   ·
    obtain rfl : q = s.size := by omega
    have HFIN : Hid (digs (s.data.toList.drop s.size) = []) := by show _ = _; rw [drop_end (Nat.lt_irrefl _)]; rfl
    go_wp2_with fail
    go_quiet (fail)
    have hmm : satF 0 (digs (s.data.toList.drop p)) = m := by have := hs.out; rw [HFIN.out, satF] at this; exact this
    have hrn : refN c r = (m : Int) := by rw [HREF.out, hmm]
    have hqq : s.size = p + (digs (s.data.toList.drop p)).length := by have := hlen.out; rw [HFIN.out, List.length_nil] at this; omega
    have hdq : s.data.toList.drop s.size = r.dropWhile isDig := by rw [← HDW.out, hdrop.out]; exact (dropW_nil HFIN.out).symm
    have hfit := HFIT.out
    rw [hrn] at hfit
    have hex : (s.extract p s.size).data.toList = c :: digs r := by rw [extract_list]; exact HEX.out s.size hqq
    have hql : s.size ≤ s.size := hP.out.2.1
    have hpq : p ≤ s.size := by omega
    have HDQ := Lib.hid hdq
    have hfit2 := hfit
    have HXX := Lib.hid hex
    clear hmm hrn hdq hfit hex hqq
    go_wp2_with fail
    generalize hN : (m : Int) = N at hfit2 ⊢
    have HFT2 := Lib.hid hfit2
    clear hfit2
    by_cases hbig : 9007199254740992 < N
    ·
     have g1 : decide (9007199254740992 < N) = true := decide_eq_true hbig
     have hv : Hid (numR c r = none) := by show _ = _; rw [HFT2.out, if_neg (fun h => by omega)]
     have CF := Lib.hid (fun n => fail_walk g s s.size 0 3 (wr.drewN n) (hP.out.dn n))
     revert nq; intro n2
     go_wp2_with fail
     go_quiet (fail)
     rw [World.drewN_drewN]
     go_wp2_with fail
     refine (CF.out (n2 + nq)).mono ?_
     rintro _ w3 ⟨rfl, hR, hg3⟩
     go_wp2_with fail
     go_ret
     exact ⟨grown_then (grown_dn hg.out (n2 + nq)) hg3 (fun y e => .inl (by injection e with e; exact e.symm)), by rw [hv.out]; exact ⟨N, s.size, rfl, hR⟩⟩

    by_cases hsml : N < -9007199254740992
    ·
     have g1 : decide (9007199254740992 < N) = false := decide_eq_false hbig
     have g2 : decide (N < -9007199254740992) = true := decide_eq_true hsml
     have hv : Hid (numR c r = none) := by show _ = _; rw [HFT2.out, if_neg (fun h => by omega)]
     have CF := Lib.hid (fun n => fail_walk g s s.size 0 3 (wr.drewN n) (hP.out.dn n))
     revert nq; intro n2
     go_wp2_with fail
     go_quiet (fail)
     rw [World.drewN_drewN]
     go_wp2_with fail
     refine (CF.out (n2 + nq)).mono ?_
     rintro _ w3 ⟨rfl, hR, hg3⟩
     go_wp2_with fail
     go_ret
     exact ⟨grown_then (grown_dn hg.out (n2 + nq)) hg3 (fun y e => .inl (by injection e with e; exact e.symm)), by rw [hv.out]; exact ⟨N, s.size, rfl, hR⟩⟩

    have g1 : decide (9007199254740992 < N) = false := decide_eq_false hbig
    have g2 : decide (N < -9007199254740992) = false := decide_eq_false hsml
    obtain ⟨z, hz⟩ : ∃ z : ByteArray, (⟨(Lib.itoa N).toArray⟩ : ByteArray) = z := ⟨_, rfl⟩
    have hcmp : (z.toList == (s.extract p s.size).toList) = decide (Lib.itoa N = c :: digs r) := by
     rw [ByteArray.toList_eq, ByteArray.toList_eq, HXX.out, ← hz, Bool.eq_iff_iff, beq_iff_eq]; simp
    have cd := fun W => digits_walk N (by omega) W
    rw [hz] at cd
    have CD := Lib.hid cd
    clear cd hz
    have hpqI : (p : Int) ≤ (s.size : Int) := by omega
    have hqlI : (s.size : Int) ≤ (s.size : Int) := by omega
    have HRG : Hid (-9007199254740992 ≤ N ∧ N ≤ 9007199254740992) := ⟨by omega, by omega⟩
    by_cases heq : Lib.itoa N = c :: digs r
    ·
     rw [decide_eq_true heq] at hcmp
     have hcmp2 : (!(z.toList == (s.extract p s.size).toList)) = false := by rw [hcmp]; rfl
     have HV : Hid (numR c r = some (N, r.dropWhile isDig)) := by show _ = _; rw [HFT2.out, if_pos ⟨HRG.out, heq⟩]
     clear heq
     have hPd := (hP.out.dn nq).below (Below.refl (wr.drewN nq).heap.size (wr.drewN nq)).drew
     have hGd := grown_dn hg.out (nq + 1)
     have hS0 := And.intro hPd.facts.1 hPd.facts.2.1
     have HPD := Lib.hid hPd
     have HGD := Lib.hid hGd
     clear hPd hGd
     refine wp_region_held_drew (S := fun W => W.cell? ⟨g, 0, none⟩ = some (.string s) ∧ W.cell? ⟨g, 1, none⟩ = some (.int .i64 (s.size : Int))) (by kernel_rfl) hS0 (fun hHeld => ?_)
     refine tkr 0 rfl ?_
     try simp only [nrm, Act.put]
     refine tkr 1 rfl ?_
     try simp only [nrm, Act.put]
     refine tkr 2 rfl ?_
     try simp only [nrm, Act.put]
     refine tkr 3 rfl ?_
     try simp only [nrm, Act.put]
     refine tkr 4 rfl ?_
     try simp only [nrm, Act.put]
     refine tkr 5 rfl ?_
     try simp only [nrm, Act.put]
     refine tkr 6 rfl ?_
     try simp only [nrm, Act.put]
     refine tkr 7 rfl ?_
     try simp only [nrm, Act.put]
     refine tkr 9 rfl ?_
     try simp only [nrm, Act.put]
     refine tkr 10 rfl ?_
     try simp only [nrm, Act.put]
     refine tkr 11 rfl ?_
     try simp only [nrm, Act.put]
     refine tkr 12 rfl ?_
     try simp only [nrm, Act.put]
     refine tkr 13 rfl ?_
     try simp only [nrm, Act.put]
     refine tkr 14 rfl ?_
     try simp only [nrm, Act.put]
     refine tkr 15 rfl ?_
     try simp only [nrm, Act.put]
     refine tkr 16 rfl ?_
     try simp only [nrm, Act.put]
     refine tkr 17 rfl ?_
     try simp only [nrm, Act.put]
     refine tkr 18 rfl ?_
     try simp only [nrm, Act.put]
     refine rd1 8 rfl fun K hK => ?_
     go_simp
     refine (CD.out _).mono ?_
     rintro _ W9 ⟨rfl, hb⟩
     go_simp
     have HP9 := Lib.hid (HPD.out.below hb)
     have HG9 := Lib.hid (grown_below2 HGD.out hb)
     refine hK.out _ _ (And.intro HP9.out.facts.1 HP9.out.facts.2.1) (fun hHeld2 => ?_)
     clear hK K hb hHeld hS0
     have hHeld := hHeld2
     clear hHeld2
     try simp only [nrm, Act.put]
     refine tkr 19 rfl ?_
     try simp only [nrm, Act.put]
     refine tkr 20 rfl ?_
     try simp only [nrm, Act.put]
     refine wpAnyH_done (by kernel_rfl) ?_ _
     clear hHeld
     go_wp2_with fail
     go_ret
     exact ⟨HG9.out, by rw [HV.out]; exact ⟨s.size, rfl, HP9.out, HDQ.out⟩⟩
    ·
     rw [decide_eq_false heq] at hcmp
     have hcmp2 : (!(z.toList == (s.extract p s.size).toList)) = true := by rw [hcmp]; rfl
     have HV : Hid (numR c r = none) := by show _ = _; rw [HFT2.out, if_neg (fun h => heq h.2)]
     clear heq
     have hPd := (hP.out.dn nq).below (Below.refl (wr.drewN nq).heap.size (wr.drewN nq)).drew
     have hGd := grown_dn hg.out (nq + 1)
     have hS0 := And.intro hPd.facts.1 hPd.facts.2.1
     have HPD := Lib.hid hPd
     have HGD := Lib.hid hGd
     clear hPd hGd
     refine wp_region_held_drew (S := fun W => W.cell? ⟨g, 0, none⟩ = some (.string s) ∧ W.cell? ⟨g, 1, none⟩ = some (.int .i64 (s.size : Int))) (by kernel_rfl) hS0 (fun hHeld => ?_)
     refine tkr 0 rfl ?_
     try simp only [nrm, Act.put]
     refine tkr 1 rfl ?_
     try simp only [nrm, Act.put]
     refine tkr 2 rfl ?_
     try simp only [nrm, Act.put]
     refine tkr 3 rfl ?_
     try simp only [nrm, Act.put]
     refine tkr 4 rfl ?_
     try simp only [nrm, Act.put]
     refine tkr 5 rfl ?_
     try simp only [nrm, Act.put]
     refine tkr 6 rfl ?_
     try simp only [nrm, Act.put]
     refine tkr 7 rfl ?_
     try simp only [nrm, Act.put]
     refine tkr 9 rfl ?_
     try simp only [nrm, Act.put]
     refine tkr 10 rfl ?_
     try simp only [nrm, Act.put]
     refine tkr 11 rfl ?_
     try simp only [nrm, Act.put]
     refine tkr 12 rfl ?_
     try simp only [nrm, Act.put]
     refine tkr 13 rfl ?_
     try simp only [nrm, Act.put]
     refine tkr 14 rfl ?_
     try simp only [nrm, Act.put]
     refine tkr 15 rfl ?_
     try simp only [nrm, Act.put]
     refine tkr 16 rfl ?_
     try simp only [nrm, Act.put]
     refine tkr 17 rfl ?_
     try simp only [nrm, Act.put]
     refine tkr 18 rfl ?_
     try simp only [nrm, Act.put]
     refine rd1 8 rfl fun K hK => ?_
     go_simp
     refine (CD.out _).mono ?_
     rintro _ W9 ⟨rfl, hb⟩
     go_simp
     have HP9 := Lib.hid (HPD.out.below hb)
     have HG9 := Lib.hid (grown_below2 HGD.out hb)
     refine hK.out _ _ (And.intro HP9.out.facts.1 HP9.out.facts.2.1) (fun hHeld2 => ?_)
     clear hK K hb hHeld hS0
     have hHeld := hHeld2
     clear hHeld2
     try simp only [nrm, Act.put]
     refine tkr 19 rfl ?_
     try simp only [nrm, Act.put]
     refine tkr 20 rfl ?_
     try simp only [nrm, Act.put]
     refine wpAnyH_done (by kernel_rfl) ?_ _
     clear hHeld
     have CF := Lib.hid (fail_walk g s s.size 0 3 W9 HP9.out)
     go_wp2_with fail
     refine CF.out.mono ?_
     rintro _ w3 ⟨rfl, hR, hg3⟩
     go_wp2_with fail
     go_ret
     exact ⟨grown_then HG9.out hg3 (fun y e => .inl (by injection e with e; exact e.symm)), by rw [HV.out]; exact ⟨N, s.size, rfl, hR⟩⟩
end Go.Proofs.YtieppmppdmcleaaGreatDoor

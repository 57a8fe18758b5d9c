/- json's parser: the number of a word. Conditions: a text of at most 1000000 bytes; the laid variables of strconv. -/
import Derived.Test.YtieppmppdmcleaaGreatDoorJy
set_option linter.unusedVariables false
set_option linter.unusedSimpArgs false
set_option maxRecDepth 20000
namespace Go.Proofs.YtieppmppdmcleaaGreatDoor
open Go.RowKit
theorem errS_named : Tryz.prog.globalNamed "strconv.ErrSyntax" = some 3 := by kernel_rfl
theorem errR_named : Tryz.prog.globalNamed "strconv.ErrRange" = some 4 := by kernel_rfl
def LaidB (w : World) (B : Nat) : Prop := B ≤ w.heap.size ∧ (5 < B ∧ 3 < B ∧ 4 < B) ∧ Tab w ∧ (∃ tp p, w.var? Tryz.prog "strconv.ErrSyntax" = some #[.iface tp p]) ∧ (∃ tp p, w.var? Tryz.prog "strconv.ErrRange" = some #[.iface tp p])
theorem var_grown {g : Nat} {W W' : World} {n : String} {cs : Array Value} {row : Option Nat} (h : W.grownBy W' row) (hg : Tryz.prog.globalNamed n = some g) (hgB : g < W.heap.size) (hr : some g ≠ row) (hv : W.var? Tryz.prog n = some cs) : W'.var? Tryz.prog n = some cs := by
 simp only [World.var?, hg, Option.bind_some] at hv ⊢
 rw [h.block _ hgB hr]; exact hv
theorem LaidB.grown {w w' : World} {B : Nat} {row : Option Nat} (h : LaidB w B) (hg : w.grownBy w' row) (hr : ∀ q, row = some q → B ≤ q) : LaidB w' B := by
 obtain ⟨h0, ⟨h1, h2, h3⟩, h4, ⟨t5, p5, h5⟩, ⟨t6, p6, h6⟩⟩ := h
 have hne : ∀ k, k < B → some k ≠ row := fun k hk e => by have := hr k e.symm; omega
 exact ⟨Nat.le_trans h0 hg.size, ⟨h1, h2, h3⟩, var_grown hg tab_named (by omega) (hne _ h1) h4, ⟨t5, p5, var_grown hg errS_named (by omega) (hne _ h2) h5⟩, ⟨t6, p6, var_grown hg errR_named (by omega) (hne _ h3) h6⟩⟩
theorem LaidB.below {w w' : World} {B : Nat} (h : LaidB w B) (hb : Below w.heap.size w w') : LaidB w' B := h.grown (below_row hb none) (fun q e => by cases e)
theorem LaidB.tab {w : World} {B : Nat} (h : LaidB w B) : Tab w := h.2.2.1
theorem bytes_below (w : World) (T : TypeId) (t : ByteArray) : Below w.heap.size w (Lib.bytesWorld w T t) := by
 exact ⟨by simp [Lib.bytesWorld, World.freeze]; rfl, by simp [Lib.bytesWorld, World.freeze]; try rfl, by simp [Lib.bytesWorld, World.freeze]; rfl, by rw [Lib.bytesWorld_size]; omega, fun k hk => Lib.bytesWorld_at_old w T _ k hk⟩
def AtoiR (txt : List UInt8) (w : World) (e : Ending) (w' : World) : Prop :=
 Below w.heap.size w w' ∧ match Lib.atoiAll txt with
  | .ok v => e = .returned (.tuple #[.int .i64 v, .nilIface])
  | _ => ∃ (n : Int) (N : Nat), e = .returned (.tuple #[.int .i64 n, .iface 179 (.pointer (some ⟨N, 0, none⟩))])
theorem atoi_walk (s : ByteArray) (l : List UInt8) (hs : s.data.toList = l) (hm : s.size ≤ 1000000) (w : World) (B : Nat) (hL : LaidB w B) : Calls Tryz.prog 134 #[.string s] w (AtoiR l w) := by
 obtain ⟨_, _, _, ⟨t5, p5, h5⟩, ⟨t6, p6, h6⟩⟩ := hL
 unfold AtoiR
 rcases hx : Lib.atoiAll l with v | _ | _
 ·
  refine (Tryz.strconv_Atoi_ok s (by omega) v (by rw [hs]; exact hx) w).mono ?_
  rintro _ w1 ⟨rfl, rfl | ⟨t, rfl⟩⟩
  ·
   exact ⟨Below.refl _ _, rfl⟩
  ·
   exact ⟨bytes_below _ _ _, rfl⟩
 ·
  refine (Tryz.strconv_Atoi_syntax_var s (by omega) (by rw [hs]; exact hx) t5 p5 w h5).mono ?_
  rintro _ w1 ⟨N, rfl, _, _, hb⟩
  exact ⟨hb, _, N, rfl⟩
 ·
  refine (Tryz.strconv_Atoi_range_var s (by omega) (by rw [hs]; exact hx) t6 p6 w h6).mono ?_
  rintro _ w1 ⟨N, rfl, _, _, hb⟩
  exact ⟨hb, _, N, rfl⟩
def numW (c : UInt8) (r : List UInt8) : Wd × List UInt8 := match numR c r with | some (n, r2) => (.number n, r2) | none => (.none, [])
theorem extract_list (s : ByteArray) (p q : Nat) : (s.extract p q).data.toList = (s.data.toList.drop p).take (q - p) := by rw [Lib.extract_data]
set_option maxHeartbeats 16000000 in
theorem number_walk0 (g : Nat) (s : ByteArray) (p : Nat) (hlt : p < s.size) (c : Nat) (hc : (s[p]'hlt).toNat = c) (B : Nat) (hB : B ≤ g) (w : World) (hL : LaidB w B) (h : PAt w g s p) :
  Calls Tryz.prog 108 #[.pointer (some ⟨g, 0, none⟩)] w (WordR g s (numW (UInt8.ofNat c) (s.data.toList.drop (p + 1))) w) := by
 have hsm := h.2.2
 have hgl := h.lt
 have hd0 := drop_cons hlt hc
 obtain ⟨r, hr⟩ : ∃ r, s.data.toList.drop (p + 1) = r := ⟨_, rfl⟩
 rw [hr] at hd0 ⊢
 have hrl : r.length = s.size - (p + 1) := by rw [← hr]; simp
 obtain ⟨c0, c1, f1⟩ := h.facts
 have hp1 : Hid ((p : Int) + 1 = ((p + 1 : Nat) : Int)) := by show _ = _; omega
 have hput := h.put (p + 1) (by omega)
 rw [← hp1.out] at hput
 have HP := Lib.hid hput.1
 have HG := Lib.hid hput.2
 have HL0 := Lib.hid hL
 have HD0 := Lib.hid hd0
 have HR := Lib.hid hr
 clear h hd0 hput hL hr
 go_enter Tryz.func108, Tryz.ntmps108
 go_wp2_with fail
 go_loopw [17] (fun _ wr => ∃ q, p + 1 ≤ q ∧ q ≤ s.size ∧ Hid (PAt wr g s q) ∧ Hid (r.takeWhile isDig = r.take (q - (p + 1)) ++ (r.drop (q - (p + 1))).takeWhile isDig ∧ r.dropWhile isDig = (r.drop (q - (p + 1))).dropWhile isDig) ∧ Hid (w.grownBy wr (some g))) (fun _ wr => s.size - (match wr.cell? ⟨g, 1, none⟩ with | some (.int _ n) => n.toNat | _ => 0))
 case atStart => exact ⟨p + 1, by omega, by omega, HP, ⟨by simp, by simp⟩, HG⟩
 case round =>
  clear HP HG c0 c1 f1
  obtain ⟨q, hq1, hq2, hP, hs, hg⟩ := hrel
  obtain ⟨c0, c1, f1⟩ := hP.out.facts
  have hrd : r.drop (q - (p + 1)) = s.data.toList.drop q := by rw [← HR.out, List.drop_drop]; congr 1; omega
  by_cases hgo : ∃ hq : q < s.size, isDig (UInt8.ofNat (s[q]'hq).toNat) = true
  ·
   obtain ⟨hq, hdig⟩ := hgo
   obtain ⟨b, eb, hb2⟩ : ∃ b : Nat, (s[q]'hq).toNat = b ∧ b < 256 := ⟨_, rfl, (s[q]'hq).toNat_lt⟩
   rw [eb] at hdig
   have hdg : 48 ≤ b ∧ b ≤ 57 := by
    simp only [isDig, Bool.and_eq_true, decide_eq_true_eq, UInt8.le_iff_toNat_le] at hdig
    simp at hdig; omega
   have d1 : decide ((48 : Int) ≤ (b : Int)) = true := by simp; omega
   have d2 : decide ((b : Int) ≤ 57) = true := by simp; omega
   have d1' : decide (48 ≤ b) = true := by simp; omega
   have d2' : decide (b ≤ 57) = true := by simp; omega
   have i1 := fun W => run_index_at (P := Tryz.prog) 9 Tryz.underlying9 s q b hq eb W
   have hd := drop_cons hq eb
   have HS : Hid (r.takeWhile isDig = r.take (q + 1 - (p + 1)) ++ (r.drop (q + 1 - (p + 1))).takeWhile isDig ∧ r.dropWhile isDig = (r.drop (q + 1 - (p + 1))).dropWhile isDig) := by
    have hn1 : r.drop (q + 1 - (p + 1)) = s.data.toList.drop (q + 1) := by rw [← HR.out, List.drop_drop]; congr 1; omega
    have hn2 : r.take (q + 1 - (p + 1)) = r.take (q - (p + 1)) ++ [UInt8.ofNat b] := by
     rw [show q + 1 - (p + 1) = (q - (p + 1)) + 1 by omega, List.take_add_one]
     have : r[q - (p + 1)]? = some (UInt8.ofNat b) := by
      have e := congrArg (fun l : List UInt8 => l[0]?) (hrd.trans hd)
      simpa using e
     rw [this]; rfl
    obtain ⟨e1, e2⟩ := hs.out
    rw [hrd, hd, List.takeWhile_cons_of_pos hdig] at e1
    rw [hrd, hd, List.dropWhile_cons_of_pos hdig] at e2
    exact ⟨by rw [e1, hn1, hn2]; simp, by rw [e2, hn1]⟩
   have hq1' : Hid ((q : Int) + 1 = ((q + 1 : Nat) : Int)) := by show _ = _; omega
   clear hd hrd hdig hdg
   go_wp2_with fail
   go_quiet (fail)
   have hput := (hP.out.dn nq).put (q + 1) (by omega)
   rw [← hq1'.out] at hput
   have HA := Lib.hid hput.1
   have HGG := Lib.hid (grown_then (grown_dn hg.out nq) hput.2 (fun q e => by injection e with e; exact .inl e.symm))
   have hcell := hput.1.facts.2.1
   have C1 := Lib.hid c1
   clear hput
   go_wp2_with fail
   refine ⟨⟨q + 1, by omega, by omega, HA, HS, HGG⟩, ?_⟩
   rw [hcell, C1.out]
   simp
   omega
  ·
   obtain ⟨e1, e2⟩ := hs.out
   have hstop : (s.data.toList.drop q).takeWhile isDig = [] ∧ (s.data.toList.drop q).dropWhile isDig = s.data.toList.drop q := by
    by_cases hq : q < s.size
    ·
     rw [drop_cons hq rfl]
     have hnd : ¬ isDig (UInt8.ofNat (s[q]'hq).toNat) = true := fun h => hgo ⟨hq, h⟩
     exact ⟨List.takeWhile_cons_of_neg hnd, List.dropWhile_cons_of_neg hnd⟩
    ·
     rw [drop_end hq]; exact ⟨rfl, rfl⟩
   rw [hrd, hstop.1, List.append_nil] at e1
   rw [hrd, hstop.2] at e2
   have htx : (s.extract p q).data.toList = UInt8.ofNat c :: r.takeWhile isDig := by
    rw [extract_list, HD0.out, e1, show q - p = (q - (p + 1)) + 1 by omega, List.take_succ_cons]
   obtain ⟨ds, hds⟩ : ∃ ds, r.takeWhile isDig = ds := ⟨_, rfl⟩
   have hv0 : numR (UInt8.ofNat c) r = match Lib.atoiAll (UInt8.ofNat c :: ds) with
     | .ok n => if -9007199254740992 ≤ n ∧ n ≤ 9007199254740992 ∧ Lib.itoa n = UInt8.ofNat c :: ds then some (n, s.data.toList.drop q) else none
     | _ => none := by rw [numR, hds, e2]; rfl
   rw [hds] at htx
   have cat := fun W hW => atoi_walk (s.extract p q) _ htx (by rw [ByteArray.size_extract]; omega) W B hW
   have guard : (q < s.size → ∃ b : Nat, ∃ hq : q < s.size, (s[q]'hq).toNat = b ∧ b < 256 ∧ (b < 48 ∨ 57 < b)) := by
    intro hq
    refine ⟨_, hq, rfl, (s[q]'hq).toNat_lt, ?_⟩
    have hnd : ¬ isDig (UInt8.ofNat (s[q]'hq).toNat) = true := fun h => hgo ⟨hq, h⟩
    simp only [isDig, Bool.and_eq_true, decide_eq_true_eq, UInt8.le_iff_toNat_le] at hnd
    simp at hnd
    omega
   have hcase : (¬ q < s.size) ∨ (∃ (b : Nat) (hq : q < s.size), (s[q]'hq).toNat = b ∧ b < 48) ∨ (∃ (b : Nat) (hq : q < s.size), (s[q]'hq).toNat = b ∧ 57 < b) := by
    by_cases hq : q < s.size
    ·
     obtain ⟨b, hq', eb, _, h | h⟩ := guard hq
     ·
      exact .inr (.inl ⟨b, hq', eb, h⟩)
     ·
      exact .inr (.inr ⟨b, hq', eb, h⟩)
    ·
     exact .inl hq
   have hpq1 : (p : Int) ≤ (q : Int) := by omega
   have hpq2 : (q : Int) ≤ (s.size : Int) := by omega
   have hpq3 : p ≤ q := by omega
   obtain ⟨tx, htx0⟩ : ∃ tx, s.extract p q = tx := ⟨_, rfl⟩
   have htx2 : tx.toList = UInt8.ofNat c :: ds := by rw [← htx0, ByteArray.toList_eq]; exact htx
   rw [htx0] at cat
   have CAT := Lib.hid cat
   have HTX2 := Lib.hid htx2
   have HV0 := Lib.hid hv0
   have HLR := Lib.hid (HL0.out.grown hg.out (fun q e => by injection e with e; omega))
   clear hgo hrd e1 e2 hstop guard cat htx htx2 hv0 hds hs
   rcases hcase with hq | ⟨b, hq, eb, hb⟩ | ⟨b, hq, eb, hb⟩
   case' inl =>
    have g1 : decide ((q : Int) < (s.size : Int)) = false := by simp; omega
    have g2 : decide (q < s.size) = false := by simp; omega
    clear hq
    go_wp2_with fail
    go_quiet (fail)
   case' inr.inl =>
    have i1 := fun W => run_index_at (P := Tryz.prog) 9 Tryz.underlying9 s q b hq eb W
    have g1 : decide ((48 : Int) ≤ (b : Int)) = false := by simp; omega
    have g2 : decide (48 ≤ b) = false := by simp; omega
    go_wp2_with fail
    go_quiet (fail)
   case' inr.inr =>
    have i1 := fun W => run_index_at (P := Tryz.prog) 9 Tryz.underlying9 s q b hq eb W
    have g1 : decide ((48 : Int) ≤ (b : Int)) = true := by simp; omega
    have g2 : decide (48 ≤ b) = true := by simp; omega
    have g3 : decide ((b : Int) ≤ 57) = false := by simp; omega
    have g4 : decide (b ≤ 57) = false := by simp; omega
    go_wp2_with fail
    go_quiet (fail)
   all_goals
    have hP1 : PAt (wr.drewN nq) g s q := hP.out
    have hG1 := grown_dn hg.out nq
    have hL1 : LaidB (wr.drewN nq) B := HLR.out
    generalize wr.drewN nq = W1 at hP1 hG1 hL1 ⊢
    obtain ⟨j0, j1, _⟩ := hP1.facts
    have HP1 := Lib.hid hP1
    have HG1 := Lib.hid hG1
    have HL1 := Lib.hid hL1
    clear hP1 hG1 hL1 c0 c1 f1 hP hg HLR
    cases hx : Lib.atoiAll (UInt8.ofNat c :: ds)
    case ok n =>
     have HXX := Lib.hid hx
     clear hx
     by_cases hlo : n < -9007199254740992
     ·
      have hv : Hid (numW (UInt8.ofNat c) r = (.none, [])) := by show _ = _; rw [numW, HV0.out, HXX.out]; simp only; rw [if_neg (by omega)]
      have d1 : decide (n < -9007199254740992) = true := decide_eq_true hlo
      clear hlo
      have CT := Lib.hid (CAT.out W1.drew HL1.out)
      go_wp2_with fail
      refine wp_region_held_drew (S := fun W => W.cell? ⟨g, 0, none⟩ = some (.string s) ∧ W.cell? ⟨g, 1, none⟩ = some (.int .i64 (q : Int))) (by kernel_rfl) (And.intro j0 j1) (fun hHeld => ?_)
      refine tkr 0 rfl ?_
      try simp only [nrm, Act.put]
      refine tkr 1 rfl ?_
      try simp only [nrm, Act.put]
      refine tkr 2 rfl ?_
      try simp only [nrm, Act.put]
      refine tkr 3 rfl ?_
      try simp only [nrm, Act.put]
      refine tkr 4 rfl ?_
      try simp only [nrm, Act.put]
      refine tkr 5 rfl ?_
      try simp only [nrm, Act.put]
      refine tkr 6 rfl ?_
      try simp only [nrm, Act.put]
      refine tkr 7 rfl ?_
      try simp only [nrm, Act.put]
      refine tkr 8 rfl ?_
      try simp only [nrm, Act.put]
      refine tkr 9 rfl ?_
      try simp only [nrm, Act.put]
      refine rd1 10 rfl fun K hK => ?_
      go_simp
      go_at_call 134
      with_reducible refine (CT.out).mono ?_
      rintro _ w9 ⟨hb9, hm9⟩
      rw [HXX.out] at hm9
      subst hm9
      have HP9 := Lib.hid ((HP1.out.dn 1).below hb9)
      have HG9 := Lib.hid (grown_below2 (grown_dn HG1.out 1) hb9)
      have HL9 := Lib.hid (LaidB.below (w := W1.drew) HL1.out hb9)
      clear hb9
      obtain ⟨k0, k1, _⟩ := HP9.out.facts
      refine hK.out _ _ (And.intro k0 k1) (fun hHeld => ?_)
      clear hK K
      try simp only [nrm, Act.put]
      refine tkr 11 rfl ?_
      try simp only [nrm, Act.put]
      refine tkr 12 rfl ?_
      try simp only [nrm, Act.put]
      refine tkr 13 rfl ?_
      try simp only [nrm, Act.put]
      refine tkr 14 rfl ?_
      try simp only [nrm, Act.put]
      refine tkr 15 rfl ?_
      try simp only [nrm, Act.put]
      refine wpAnyH_done (by kernel_rfl) ?_ _
      clear hHeld
      go_wp2_with fail
      go_quiet (fail)
      go_wp2_with fail
      go_ret
      exact wordR_none hv.out rfl (HP9.out.dn nq) (grown_dn HG9.out nq)
     by_cases hhi : 9007199254740992 < n
     ·
      have hv : Hid (numW (UInt8.ofNat c) r = (.none, [])) := by show _ = _; rw [numW, HV0.out, HXX.out]; simp only; rw [if_neg (by omega)]
      have d1 : decide (n < -9007199254740992) = false := decide_eq_false hlo
      have d2 : decide (9007199254740992 < n) = true := decide_eq_true hhi
      clear hlo hhi
      have CT := Lib.hid (CAT.out W1.drew HL1.out)
      go_wp2_with fail
      refine wp_region_held_drew (S := fun W => W.cell? ⟨g, 0, none⟩ = some (.string s) ∧ W.cell? ⟨g, 1, none⟩ = some (.int .i64 (q : Int))) (by kernel_rfl) (And.intro j0 j1) (fun hHeld => ?_)
      refine tkr 0 rfl ?_
      try simp only [nrm, Act.put]
      refine tkr 1 rfl ?_
      try simp only [nrm, Act.put]
      refine tkr 2 rfl ?_
      try simp only [nrm, Act.put]
      refine tkr 3 rfl ?_
      try simp only [nrm, Act.put]
      refine tkr 4 rfl ?_
      try simp only [nrm, Act.put]
      refine tkr 5 rfl ?_
      try simp only [nrm, Act.put]
      refine tkr 6 rfl ?_
      try simp only [nrm, Act.put]
      refine tkr 7 rfl ?_
      try simp only [nrm, Act.put]
      refine tkr 8 rfl ?_
      try simp only [nrm, Act.put]
      refine tkr 9 rfl ?_
      try simp only [nrm, Act.put]
      refine rd1 10 rfl fun K hK => ?_
      go_simp
      go_at_call 134
      with_reducible refine (CT.out).mono ?_
      rintro _ w9 ⟨hb9, hm9⟩
      rw [HXX.out] at hm9
      subst hm9
      have HP9 := Lib.hid ((HP1.out.dn 1).below hb9)
      have HG9 := Lib.hid (grown_below2 (grown_dn HG1.out 1) hb9)
      have HL9 := Lib.hid (LaidB.below (w := W1.drew) HL1.out hb9)
      clear hb9
      obtain ⟨k0, k1, _⟩ := HP9.out.facts
      refine hK.out _ _ (And.intro k0 k1) (fun hHeld => ?_)
      clear hK K
      try simp only [nrm, Act.put]
      refine tkr 11 rfl ?_
      try simp only [nrm, Act.put]
      refine tkr 12 rfl ?_
      try simp only [nrm, Act.put]
      refine tkr 13 rfl ?_
      try simp only [nrm, Act.put]
      refine tkr 14 rfl ?_
      try simp only [nrm, Act.put]
      refine tkr 15 rfl ?_
      try simp only [nrm, Act.put]
      refine wpAnyH_done (by kernel_rfl) ?_ _
      clear hHeld
      go_wp2_with fail
      go_quiet (fail)
      go_wp2_with fail
      go_ret
      exact wordR_none hv.out rfl (HP9.out.dn nq) (grown_dn HG9.out nq)
     have d1 : decide (n < -9007199254740992) = false := decide_eq_false hlo
     have d2 : decide (9007199254740992 < n) = false := decide_eq_false hhi
     have hn1 : -9223372036854775808 ≤ n := by omega
     have hn2 : n ≤ 9223372036854775807 := by omega
     obtain ⟨z, hz, hzl⟩ := mk_name (Lib.itoa n) (Lib.itoa_length_le n hn1 hn2)
     have ci := fun W hT => itoa_walk n hn1 hn2 W hT
     simp only [hz] at ci
     have CI := Lib.hid ci
     have hcmp : (z.toList == tx.toList) = decide (Lib.itoa n = UInt8.ofNat c :: ds) := by
      rw [HTX2.out, ← hz, ByteArray.toList_eq, Bool.eq_iff_iff]; simp
     by_cases he : Lib.itoa n = UInt8.ofNat c :: ds
     ·
      have hv : Hid (numW (UInt8.ofNat c) r = (.number n, s.data.toList.drop q)) := by show _ = _; rw [numW, HV0.out, HXX.out]; simp only; rw [if_pos ⟨by omega, by omega, he⟩]
      rw [decide_eq_true he] at hcmp
      have hzt : z = tx := by apply str_eq; rw [← hz]; have := HTX2.out; rw [ByteArray.toList_eq] at this; rw [this]; simp [he]
      subst hzt
      clear hlo hhi hz ci he hcmp hn1 hn2
      have CT := Lib.hid (CAT.out W1.drew HL1.out)
      go_wp2_with fail
      refine wp_region_held_drew (S := fun W => W.cell? ⟨g, 0, none⟩ = some (.string s) ∧ W.cell? ⟨g, 1, none⟩ = some (.int .i64 (q : Int))) (by kernel_rfl) (And.intro j0 j1) (fun hHeld => ?_)
      refine tkr 0 rfl ?_
      try simp only [nrm, Act.put]
      refine tkr 1 rfl ?_
      try simp only [nrm, Act.put]
      refine tkr 2 rfl ?_
      try simp only [nrm, Act.put]
      refine tkr 3 rfl ?_
      try simp only [nrm, Act.put]
      refine tkr 4 rfl ?_
      try simp only [nrm, Act.put]
      refine tkr 5 rfl ?_
      try simp only [nrm, Act.put]
      refine tkr 6 rfl ?_
      try simp only [nrm, Act.put]
      refine tkr 7 rfl ?_
      try simp only [nrm, Act.put]
      refine tkr 8 rfl ?_
      try simp only [nrm, Act.put]
      refine tkr 9 rfl ?_
      try simp only [nrm, Act.put]
      refine rd1 10 rfl fun K hK => ?_
      go_simp
      go_at_call 134
      with_reducible refine (CT.out).mono ?_
      rintro _ w9 ⟨hb9, hm9⟩
      rw [HXX.out] at hm9
      subst hm9
      have HP9 := Lib.hid ((HP1.out.dn 1).below hb9)
      have HG9 := Lib.hid (grown_below2 (grown_dn HG1.out 1) hb9)
      have HL9 := Lib.hid (LaidB.below (w := W1.drew) HL1.out hb9)
      clear hb9
      obtain ⟨k0, k1, _⟩ := HP9.out.facts
      refine hK.out _ _ (And.intro k0 k1) (fun hHeld => ?_)
      clear hK K
      try simp only [nrm, Act.put]
      refine tkr 11 rfl ?_
      try simp only [nrm, Act.put]
      refine tkr 12 rfl ?_
      try simp only [nrm, Act.put]
      refine tkr 13 rfl ?_
      try simp only [nrm, Act.put]
      refine tkr 14 rfl ?_
      try simp only [nrm, Act.put]
      refine tkr 15 rfl ?_
      try simp only [nrm, Act.put]
      refine wpAnyH_done (by kernel_rfl) ?_ _
      clear hHeld
      go_wp2_with fail
      refine wp_region_held_drew (S := fun W => W.cell? ⟨g, 0, none⟩ = some (.string s) ∧ W.cell? ⟨g, 1, none⟩ = some (.int .i64 (q : Int))) (by kernel_rfl) (And.intro k0 k1) (fun hHeld => ?_)
      refine tkr 0 rfl ?_
      try simp only [nrm, Act.put]
      refine tkr 1 rfl ?_
      try simp only [nrm, Act.put]
      refine tkr 2 rfl ?_
      try simp only [nrm, Act.put]
      refine tkr 3 rfl ?_
      try simp only [nrm, Act.put]
      refine tkr 4 rfl ?_
      try simp only [nrm, Act.put]
      refine tkr 5 rfl ?_
      try simp only [nrm, Act.put]
      refine tkr 6 rfl ?_
      try simp only [nrm, Act.put]
      refine tkr 7 rfl ?_
      try simp only [nrm, Act.put]
      refine tkr 8 rfl ?_
      try simp only [nrm, Act.put]
      refine tkr 9 rfl ?_
      try simp only [nrm, Act.put]
      refine tkr 10 rfl ?_
      try simp only [nrm, Act.put]
      refine tkr 11 rfl ?_
      try simp only [nrm, Act.put]
      refine tkr 13 rfl ?_
      try simp only [nrm, Act.put]
      refine tkr 14 rfl ?_
      try simp only [nrm, Act.put]
      refine tkr 15 rfl ?_
      try simp only [nrm, Act.put]
      refine tkr 16 rfl ?_
      try simp only [nrm, Act.put]
      refine tkr 17 rfl ?_
      try simp only [nrm, Act.put]
      refine tkr 18 rfl ?_
      try simp only [nrm, Act.put]
      refine tkr 19 rfl ?_
      try simp only [nrm, Act.put]
      refine tkr 20 rfl ?_
      try simp only [nrm, Act.put]
      refine tkr 21 rfl ?_
      try simp only [nrm, Act.put]
      refine tkr 22 rfl ?_
      try simp only [nrm, Act.put]
      refine rd1 12 rfl fun K hK => ?_
      have HT9 : Hid (Tab w9.drew) := HL9.out.tab
      go_simp
      go_at_call 118
      with_reducible refine (CI.out _ HT9.out).mono ?_
      rintro _ w8 ⟨rfl, hb8⟩
      have HP8 := Lib.hid ((HP9.out.dn 1).below hb8)
      have HG8 := Lib.hid (grown_below2 (grown_dn HG9.out 1) hb8)
      clear hb8
      obtain ⟨m0, m1, _⟩ := HP8.out.facts
      refine hK.out _ _ (And.intro m0 m1) (fun hHeld => ?_)
      clear hK K
      try simp only [nrm, Act.put]
      refine tkr 23 rfl ?_
      try simp only [nrm, Act.put]
      refine tkr 24 rfl ?_
      try simp only [nrm, Act.put]
      refine wpAnyH_done (by kernel_rfl) ?_ _
      clear hHeld
      go_wp2_with fail
      go_ret
      exact ⟨q, by rw [hv.out]; rfl, HP8.out, fun _ => by rw [hv.out], HG8.out⟩
     ·
      have hv : Hid (numW (UInt8.ofNat c) r = (.none, [])) := by show _ = _; rw [numW, HV0.out, HXX.out]; simp only; rw [if_neg (fun h => he h.2.2)]
      rw [decide_eq_false he] at hcmp
      clear hlo hhi hz ci he hn1 hn2
      have CT := Lib.hid (CAT.out W1.drew HL1.out)
      go_wp2_with fail
      refine wp_region_held_drew (S := fun W => W.cell? ⟨g, 0, none⟩ = some (.string s) ∧ W.cell? ⟨g, 1, none⟩ = some (.int .i64 (q : Int))) (by kernel_rfl) (And.intro j0 j1) (fun hHeld => ?_)
      refine tkr 0 rfl ?_
      try simp only [nrm, Act.put]
      refine tkr 1 rfl ?_
      try simp only [nrm, Act.put]
      refine tkr 2 rfl ?_
      try simp only [nrm, Act.put]
      refine tkr 3 rfl ?_
      try simp only [nrm, Act.put]
      refine tkr 4 rfl ?_
      try simp only [nrm, Act.put]
      refine tkr 5 rfl ?_
      try simp only [nrm, Act.put]
      refine tkr 6 rfl ?_
      try simp only [nrm, Act.put]
      refine tkr 7 rfl ?_
      try simp only [nrm, Act.put]
      refine tkr 8 rfl ?_
      try simp only [nrm, Act.put]
      refine tkr 9 rfl ?_
      try simp only [nrm, Act.put]
      refine rd1 10 rfl fun K hK => ?_
      go_simp
      go_at_call 134
      with_reducible refine (CT.out).mono ?_
      rintro _ w9 ⟨hb9, hm9⟩
      rw [HXX.out] at hm9
      subst hm9
      have HP9 := Lib.hid ((HP1.out.dn 1).below hb9)
      have HG9 := Lib.hid (grown_below2 (grown_dn HG1.out 1) hb9)
      have HL9 := Lib.hid (LaidB.below (w := W1.drew) HL1.out hb9)
      clear hb9
      obtain ⟨k0, k1, _⟩ := HP9.out.facts
      refine hK.out _ _ (And.intro k0 k1) (fun hHeld => ?_)
      clear hK K
      try simp only [nrm, Act.put]
      refine tkr 11 rfl ?_
      try simp only [nrm, Act.put]
      refine tkr 12 rfl ?_
      try simp only [nrm, Act.put]
      refine tkr 13 rfl ?_
      try simp only [nrm, Act.put]
      refine tkr 14 rfl ?_
      try simp only [nrm, Act.put]
      refine tkr 15 rfl ?_
      try simp only [nrm, Act.put]
      refine wpAnyH_done (by kernel_rfl) ?_ _
      clear hHeld
      go_wp2_with fail
      refine wp_region_held_drew (S := fun W => W.cell? ⟨g, 0, none⟩ = some (.string s) ∧ W.cell? ⟨g, 1, none⟩ = some (.int .i64 (q : Int))) (by kernel_rfl) (And.intro k0 k1) (fun hHeld => ?_)
      refine tkr 0 rfl ?_
      try simp only [nrm, Act.put]
      refine tkr 1 rfl ?_
      try simp only [nrm, Act.put]
      refine tkr 2 rfl ?_
      try simp only [nrm, Act.put]
      refine tkr 3 rfl ?_
      try simp only [nrm, Act.put]
      refine tkr 4 rfl ?_
      try simp only [nrm, Act.put]
      refine tkr 5 rfl ?_
      try simp only [nrm, Act.put]
      refine tkr 6 rfl ?_
      try simp only [nrm, Act.put]
      refine tkr 7 rfl ?_
      try simp only [nrm, Act.put]
      refine tkr 8 rfl ?_
      try simp only [nrm, Act.put]
      refine tkr 9 rfl ?_
      try simp only [nrm, Act.put]
      refine tkr 10 rfl ?_
      try simp only [nrm, Act.put]
      refine tkr 11 rfl ?_
      try simp only [nrm, Act.put]
      refine tkr 13 rfl ?_
      try simp only [nrm, Act.put]
      refine tkr 14 rfl ?_
      try simp only [nrm, Act.put]
      refine tkr 15 rfl ?_
      try simp only [nrm, Act.put]
      refine tkr 16 rfl ?_
      try simp only [nrm, Act.put]
      refine tkr 17 rfl ?_
      try simp only [nrm, Act.put]
      refine tkr 18 rfl ?_
      try simp only [nrm, Act.put]
      refine tkr 19 rfl ?_
      try simp only [nrm, Act.put]
      refine tkr 20 rfl ?_
      try simp only [nrm, Act.put]
      refine tkr 21 rfl ?_
      try simp only [nrm, Act.put]
      refine tkr 22 rfl ?_
      try simp only [nrm, Act.put]
      refine rd1 12 rfl fun K hK => ?_
      have HT9 : Hid (Tab w9.drew) := HL9.out.tab
      go_simp
      go_at_call 118
      with_reducible refine (CI.out _ HT9.out).mono ?_
      rintro _ w8 ⟨rfl, hb8⟩
      have HP8 := Lib.hid ((HP9.out.dn 1).below hb8)
      have HG8 := Lib.hid (grown_below2 (grown_dn HG9.out 1) hb8)
      clear hb8
      obtain ⟨m0, m1, _⟩ := HP8.out.facts
      refine hK.out _ _ (And.intro m0 m1) (fun hHeld => ?_)
      clear hK K
      try simp only [nrm, Act.put]
      refine tkr 23 rfl ?_
      try simp only [nrm, Act.put]
      refine tkr 24 rfl ?_
      try simp only [nrm, Act.put]
      refine wpAnyH_done (by kernel_rfl) ?_ _
      clear hHeld
      go_wp2_with fail
      go_ret
      exact wordR_none hv.out rfl HP8.out HG8.out
    all_goals
     have hv : Hid (numW (UInt8.ofNat c) r = (.none, [])) := by show _ = _; rw [numW, HV0.out, hx]
     have CT := Lib.hid (CAT.out W1.drew HL1.out)
     have HXX := Lib.hid hx
     clear hx
     go_wp2_with fail
     refine wp_region_held_drew (S := fun W => W.cell? ⟨g, 0, none⟩ = some (.string s) ∧ W.cell? ⟨g, 1, none⟩ = some (.int .i64 (q : Int))) (by kernel_rfl) (And.intro j0 j1) (fun hHeld => ?_)
     refine tkr 0 rfl ?_
     try simp only [nrm, Act.put]
     refine tkr 1 rfl ?_
     try simp only [nrm, Act.put]
     refine tkr 2 rfl ?_
     try simp only [nrm, Act.put]
     refine tkr 3 rfl ?_
     try simp only [nrm, Act.put]
     refine tkr 4 rfl ?_
     try simp only [nrm, Act.put]
     refine tkr 5 rfl ?_
     try simp only [nrm, Act.put]
     refine tkr 6 rfl ?_
     try simp only [nrm, Act.put]
     refine tkr 7 rfl ?_
     try simp only [nrm, Act.put]
     refine tkr 8 rfl ?_
     try simp only [nrm, Act.put]
     refine tkr 9 rfl ?_
     try simp only [nrm, Act.put]
     refine rd1 10 rfl fun K hK => ?_
     go_simp
     go_at_call 134
     with_reducible refine (CT.out).mono ?_
     rintro _ w9 ⟨hb9, hm9⟩
     rw [HXX.out] at hm9
     obtain ⟨n9, N9, rfl⟩ := hm9
     have HP9 := Lib.hid ((HP1.out.dn 1).below hb9)
     have HG9 := Lib.hid (grown_below2 (grown_dn HG1.out 1) hb9)
     clear hb9
     obtain ⟨k0, k1, _⟩ := HP9.out.facts
     refine hK.out _ _ (And.intro k0 k1) (fun hHeld => ?_)
     clear hK K
     try simp only [nrm, Act.put]
     refine tkr 11 rfl ?_
     try simp only [nrm, Act.put]
     refine tkr 12 rfl ?_
     try simp only [nrm, Act.put]
     refine tkr 13 rfl ?_
     try simp only [nrm, Act.put]
     refine tkr 14 rfl ?_
     try simp only [nrm, Act.put]
     refine tkr 15 rfl ?_
     try simp only [nrm, Act.put]
     refine wpAnyH_done (by kernel_rfl) ?_ _
     clear hHeld
     go_wp2_with fail
     go_quiet (fail)
     go_wp2_with fail
     go_ret
     exact wordR_none hv.out rfl (HP9.out.dn nq) (grown_dn HG9.out nq)
end Go.Proofs.YtieppmppdmcleaaGreatDoor

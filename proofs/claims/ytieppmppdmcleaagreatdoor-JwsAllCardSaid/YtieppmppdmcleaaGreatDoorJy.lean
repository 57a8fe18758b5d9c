/- json's parser: the text of a word. Condition: a text of at most 1000000 bytes. -/
import Derived.Test.YtieppmppdmcleaaGreatDoorJx
set_option linter.unusedVariables false
set_option linter.unusedSimpArgs false
set_option maxRecDepth 20000
namespace Go.Proofs.YtieppmppdmcleaaGreatDoor
open Go.RowKit
def wordV : Wd → Value
 | .none => .nilIface
 | .mark c => .iface 136 (.int .u8 (c.toNat : Int))
 | .phrase t => .iface 152 (strV t)
 | .number n => .iface 157 (.int .i64 n)
 | .value k b => .iface 160 (.agg (cells6 k b 0 [] none 0 0 none 0 0).toArray)
def WordR (g : Nat) (s : ByteArray) (wd : Wd × List UInt8) (w : World) (e : Ending) (w' : World) : Prop :=
 ∃ q, e = .returned (wordV wd.1) ∧ PAt w' g s q ∧ (wd.1 ≠ .none → s.data.toList.drop q = wd.2) ∧ w.grownBy w' (some g)
def textW (l : List UInt8) : Wd × List UInt8 := match textR l with | some (t, r) => (.phrase t, r) | none => (.none, [])
theorem wordR_none {g : Nat} {s : ByteArray} {wd : Wd × List UInt8} {w w' : World} {e : Ending} (hw : wd = (.none, [])) (he : e = .returned .nilIface) {q : Nat} (hp : PAt w' g s q) (hg : w.grownBy w' (some g)) : WordR g s wd w e w' := by
 subst hw
 exact ⟨q, he, hp, fun h => absurd rfl h, hg⟩
theorem str_phrase {w : World} {B n c : Nat} {A : Option Addr} {l : List UInt8} (h : Reads w B 1 A n (Lib.byteCells l)) : (convert 31 152 (.slice A n c)).run Tryz.prog w = .ok (.string ⟨l.toArray⟩) w :=
 reads_str (P := Tryz.prog) h 31 152 5 Tryz.underlying31 Tryz.underlying5 Tryz.underlying152
theorem str_string {w : World} {B n c : Nat} {A : Option Addr} {l : List UInt8} (h : Reads w B 1 A n (Lib.byteCells l)) : (convert 31 9 (.slice A n c)).run Tryz.prog w = .ok (.string ⟨l.toArray⟩) w :=
 reads_str (P := Tryz.prog) h 31 9 5 Tryz.underlying31 Tryz.underlying5 Tryz.underlying9
theorem own_put {w : World} {B : Nat} {e : TypeId} {size n : Nat} {v : Value} {xs : List Value} (h : w.ownsRow B e size v n xs) {p : Addr} (hp : p.block < B) (u : Value) : (w.setCell p u).ownsRow B e size v n xs := by
 refine h.kept (row := some p.block) ⟨rfl, rfl, rfl, by simp, fun i _ hne => Below.heap_setCell _ _ _ _ (fun e => hne (by rw [e]))⟩ (.inr fun e => ?_)
 have := (h.lt _ e).1
 omega
theorem escR_le (l : List UInt8) (b : UInt8) (n : Nat) (h : escR l = some (b, n)) : 1 ≤ n ∧ n ≤ l.length := by
 cases l with
 | nil => simp [escR] at h
 | cons c r =>
  rw [escR] at h
  split at h
  ·
   simp at h; obtain ⟨_, rfl⟩ := h; simp
  ·
   split at h
   ·
    rename_i he
    have hl := congrArg List.length he
    split at h
    ·
     split at h
     ·
      simp at h; obtain ⟨_, rfl⟩ := h
      simp only [List.length_cons] at hl ⊢
      omega
     ·
      simp at h
    ·
     simp at h
   ·
    simp at h
set_option maxHeartbeats 16000000 in
theorem text_walk0 (g : Nat) (s : ByteArray) (p : Nat) (w : World) (h : PAt w g s p) :
  Calls Tryz.prog 107 #[.pointer (some ⟨g, 0, none⟩)] w (WordR g s (textW (s.data.toList.drop p)) w) := by
 have H := Lib.hid h
 have hsm := h.2.2
 have hp := h.2.1
 have hgl := h.lt
 obtain ⟨i0, hi, hz0, hz1, hz2⟩ := infoS4 info_u8
 have hlen : ∀ k, (s.data.toList.drop k).length = s.size - k := fun k => by simp
 have HLEN := Lib.hid hlen
 clear h hlen
 go_enter Tryz.func107, Tryz.ntmps107
 go_wp2_with fail
 go_loopw [3] (fun ov wr => ∃ (q f : Nat) (acc : List UInt8), q ≤ s.size ∧ s.size - q + 1 ≤ f ∧ acc.length ≤ q ∧ Hid (PAt wr g s q) ∧ Hid (wr.ownsRow w.heap.size 5 1 ov acc.length (Lib.byteCells acc)) ∧ Hid (textR (s.data.toList.drop p) = strR f acc (s.data.toList.drop q)) ∧ Hid (w.grownBy wr (some g))) (fun _ wr => s.size - (match wr.cell? ⟨g, 1, none⟩ with | some (.int _ n) => n.toNat | _ => 0))
 case atStart => exact ⟨p, _, [], hp, by rw [HLEN.out]; exact Nat.le_refl _, by simp, H, World.ownsRow_nil _ _ _ _, rfl, only_refl _ _⟩
 case round =>
  clear H
  obtain ⟨q, f, acc, hq, hf, hacc, hP, hown, hs, hg⟩ := hrel
  obtain ⟨c0, c1, f1⟩ := hP.out.facts
  have hwl := hg.out.size
  by_cases hlt : q < s.size
  ·
   obtain ⟨b, eb, hb2⟩ : ∃ b : Nat, (s[q]'hlt).toNat = b ∧ b < 256 := ⟨_, rfl, (s[q]'hlt).toNat_lt⟩
   obtain ⟨f, rfl⟩ : ∃ f', f = f' + 1 := ⟨f - 1, by omega⟩
   have hd := drop_cons hlt eb
   have i1 := fun W => run_index_at (P := Tryz.prog) 9 Tryz.underlying9 s q b hlt eb W
   have hq1 : Hid ((q : Int) + 1 = ((q + 1 : Nat) : Int)) := by show _ = _; omega
   have HPH : Hid (∀ n, PAt ((wr.drewN n).setCell ⟨g, 1, none⟩ (.int .i64 ((q : Int) + 1))) g s (q + 1)) := fun n => by rw [hq1.out]; exact ((hP.out.dn n).put (q + 1) (by omega)).1
   have HGH : Hid (∀ n, w.grownBy ((wr.drewN n).setCell ⟨g, 1, none⟩ (.int .i64 ((q : Int) + 1))) (some g)) := fun n => by rw [hq1.out]; exact grown_then (grown_dn hg.out n) ((hP.out.dn n).put (q + 1) (by omega)).2 (fun q e => by injection e with e; exact .inl e.symm)
   have HOH : Hid (∀ n, ((wr.drewN n).setCell ⟨g, 1, none⟩ (.int .i64 ((q : Int) + 1))).ownsRow w.heap.size 5 1 u3 acc.length (Lib.byteCells acc)) := fun n => own_put (show (wr.drewN n).ownsRow _ _ _ _ _ _ from hown.out) hgl _
   obtain ⟨A, cc, eA, hcc, hrd⟩ := own_reads hown.out (Nat.le_refl _)
   by_cases h34 : b = 34
   ·
    subst h34
    have hv0 : textR (s.data.toList.drop p) = if validL acc then some (acc, s.data.toList.drop (q + 1)) else none := by
     rw [hs.out, hd, strR, if_pos (by decide)]
    have cval := fun W => valid_walk ⟨acc.toArray⟩ acc (by simp) W (by rw [size_mks]; omega)
    have CV := Lib.hid cval
    have hcs : Hid (∀ n, (convert 31 9 u3).run Tryz.prog ((wr.drewN n).setCell ⟨g, 1, none⟩ (.int .i64 ((q : Int) + 1))) = .ok (.string ⟨acc.toArray⟩) ((wr.drewN n).setCell ⟨g, 1, none⟩ (.int .i64 ((q : Int) + 1)))) := fun n => by
     obtain ⟨A, cc, rfl, hcc, hrd⟩ := own_reads (HOH.out n) (Nat.le_refl _)
     exact str_string hrd
    have hcs2 := hcs.out
    cases hval : validL acc
    ·
     have hv : Hid (textW (s.data.toList.drop p) = (.none, [])) := by show _ = _; rw [textW, hv0, hval]; rfl
     rw [hval] at CV
     clear hd hv0 cval hval hrd eA
     go_wp2_with fail
     go_quiet (fail)
     go_wp2_with fail
     go_quiet (fail)
     go_wp2_with fail
     refine (CV.out _).mono ?_
     rintro _ w2 ⟨rfl, hb2'⟩
     have hP2 := (HPH.out _).below hb2'
     have hG2 := grown_below2 (HGH.out _) hb2'
     have HP2 := Lib.hid hP2
     have HG2 := Lib.hid hG2
     clear hP2 hG2 hb2'
     go_wp2_with fail
     go_ret
     exact wordR_none hv.out rfl HP2.out HG2.out
    ·
     have hv : Hid (textW (s.data.toList.drop p) = (.phrase acc, s.data.toList.drop (q + 1))) := by show _ = _; rw [textW, hv0, hval]; rfl
     rw [hval] at CV
     clear hd hv0 cval hval hrd eA
     go_wp2_with fail
     go_quiet (fail)
     go_wp2_with fail
     go_quiet (fail)
     go_wp2_with fail
     refine (CV.out _).mono ?_
     rintro _ w2 ⟨rfl, hb2'⟩
     have HP2 := Lib.hid ((HPH.out _).below hb2')
     have HG2 := Lib.hid (grown_below2 (HGH.out _) hb2')
     obtain ⟨A2, c2, eA2, hc2, hrd2⟩ := own_reads (ownsRow_below (HOH.out _) hb2') (Nat.le_refl _)
     have hph := str_phrase (c := c2) hrd2
     subst eA2
     clear hb2' hrd2 hcs2
     go_wp2_with fail
     go_ret
     exact ⟨q + 1, by rw [hv.out]; rfl, HP2.out, fun _ => by rw [hv.out], HG2.out⟩
   ·
    have d1 : ((b : Int) == 34) = false := by simp; omega
    have hne : ¬ UInt8.ofNat b = 34 := by simp [← UInt8.toNat_inj]; omega
    by_cases h32 : b < 32
    ·
     have hv : Hid (textW (s.data.toList.drop p) = (.none, [])) := by
      show _ = _
      rw [textW, hs.out, hd, strR, if_neg hne, if_pos (by rw [UInt8.lt_iff_toNat_lt]; simp; omega)]
     have d2 : decide ((b : Int) < 32) = true := by simp; omega
     clear hd hrd eA
     go_wp2_with fail
     go_quiet (fail)
     go_wp2_with fail
     go_quiet (fail)
     go_wp2_with fail
     go_ret
     exact wordR_none hv.out rfl (HPH.out _) (HGH.out _)
    ·
     have d2 : decide ((b : Int) < 32) = false := by simp; omega
     have hnl : ¬ UInt8.ofNat b < 32 := by rw [UInt8.lt_iff_toNat_lt]; simp; omega
     by_cases h92 : b = 92
     ·
      subst h92
      have hv0 : strR (f + 1) acc (s.data.toList.drop q) = match escR (s.data.toList.drop (q + 1)) with
        | none => none
        | some (b, n) => strR f (acc ++ [b]) ((s.data.toList.drop (q + 1)).drop n) := by
       rw [hd, strR, if_neg (by decide), if_neg (by decide), if_pos (by decide)]
       rfl
      have hex : (s.extract (q + 1) s.size).data.toList = s.data.toList.drop (q + 1) := by rw [Lib.extract_to_end]
      have cesc := fun W => escaped_walk (s.extract (q + 1) s.size) _ hex W (by rw [ByteArray.size_extract]; omega)
      have hle : (q : Int) + 1 ≤ (s.size : Int) := by omega
      have hle2 : ((q : Int) + 1).toNat = q + 1 := by omega
      have hle3 : (0 : Int) ≤ (q : Int) + 1 := by omega
      cases he : escR (s.data.toList.drop (q + 1)) with
      | none =>
       have hv : Hid (textW (s.data.toList.drop p) = (.none, [])) := by
        show _ = _
        rw [textW, hs.out, hv0, he]
       rw [he] at cesc
       simp only [escV] at cesc
       have CE := Lib.hid cesc
       clear hd hrd eA hv0 hex cesc he
       go_wp2_with fail
       go_quiet (fail)
       revert nq; intro m1
       go_wp2_with fail
       go_quiet (fail)
       go_wp2_with fail
       have hP3 := HPH.out (m1 + nq)
       have hG3 := HGH.out (m1 + nq)
       generalize (wr.drewN (m1 + nq)).setCell ⟨g, 1, none⟩ (.int .i64 ((q : Int) + 1)) = W3 at hP3 hG3 ⊢
       obtain ⟨g0, g1, _⟩ := hP3.facts
       rw [← hq1.out] at g1
       have HP3 := Lib.hid hP3
       have HG3 := Lib.hid hG3
       clear hP3 hG3 HPH HGH HOH
       refine wp_region_held_drew (S := fun W => W.cell? ⟨g, 0, none⟩ = some (.string s) ∧ W.cell? ⟨g, 1, none⟩ = some (.int .i64 ((q : Int) + 1))) (by kernel_rfl) (And.intro g0 g1) (fun hHeld => ?_)
       refine tkr 0 rfl ?_
       try simp only [nrm, Act.put]
       refine tkr 1 rfl ?_
       try simp only [nrm, Act.put]
       refine tkr 2 rfl ?_
       try simp only [nrm, Act.put]
       refine tkr 3 rfl ?_
       try simp only [nrm, Act.put]
       refine tkr 4 rfl ?_
       try simp only [nrm, Act.put]
       refine tkr 5 rfl ?_
       try simp only [nrm, Act.put]
       refine tkr 6 rfl ?_
       try simp only [nrm, Act.put]
       refine tkr 7 rfl ?_
       try simp only [nrm, Act.put]
       refine tkr 8 rfl ?_
       try simp only [nrm, Act.put]
       refine rd1 9 rfl fun K hK => ?_
       go_simp
       go_at_call 133
       with_reducible refine (CE.out _).mono ?_
       rintro _ w9 ⟨rfl, n9, rfl⟩
       refine hK.out _ _ (And.intro g0 g1) (fun hHeld => ?_)
       clear hK K
       try simp only [nrm, Act.put]
       refine tkr 10 rfl ?_
       try simp only [nrm, Act.put]
       refine tkr 11 rfl ?_
       try simp only [nrm, Act.put]
       refine tkr 12 rfl ?_
       try simp only [nrm, Act.put]
       refine tkr 13 rfl ?_
       try simp only [nrm, Act.put]
       refine tkr 14 rfl ?_
       try simp only [nrm, Act.put]
       refine wpAnyH_done (by kernel_rfl) ?_ _
       have hP4 : PAt (W3.drew.drewN n9) g s (q + 1) := HP3.out
       have hG4 : w.grownBy (W3.drew.drewN n9) (some g) := ⟨HG3.out.os, HG3.out.tape, HG3.out.output, HG3.out.size, HG3.out.block⟩
       generalize W3.drew.drewN n9 = W4 at hP4 hG4 ⊢
       obtain ⟨j0, j1, j2⟩ := hP4.facts
       rw [← hq1.out] at j1
       have HP4 := Lib.hid hP4
       have HG4 := Lib.hid hG4
       clear hHeld hP4 hG4 HP3 HG3 g0 g1
       go_wp2_with fail
       go_ret
       exact wordR_none hv.out rfl HP4.out HG4.out
      | some bn =>
       obtain ⟨eb, n⟩ := bn
       have hnl := escR_le _ _ _ he
       rw [HLEN.out] at hnl
       obtain ⟨x, hx⟩ : ∃ x, eb.toNat = x := ⟨_, rfl⟩
       have hx2 : x < 256 := by rw [← hx]; exact eb.toNat_lt
       have hv : Hid (textR (s.data.toList.drop p) = strR f (acc ++ [eb]) (s.data.toList.drop (q + 1 + n))) := by
        show _ = _
        rw [hs.out, hv0, he]
        simp only [List.drop_drop]
       rw [he] at cesc
       simp only [escV, hx] at cesc
       have CE := Lib.hid cesc
       have hn0 : ((n : Int) == 0) = false := by simp; omega
       have HX := Lib.hid hx
       clear hd hrd eA hv0 hex cesc he hx
       go_wp2_with fail
       go_quiet (fail)
       revert nq; intro m1
       go_wp2_with fail
       go_quiet (fail)
       go_wp2_with fail
       have hP3 := HPH.out (m1 + nq)
       have hG3 := HGH.out (m1 + nq)
       have hO3 := HOH.out (m1 + nq)
       generalize (wr.drewN (m1 + nq)).setCell ⟨g, 1, none⟩ (.int .i64 ((q : Int) + 1)) = W3 at hP3 hG3 hO3 ⊢
       obtain ⟨g0, g1, _⟩ := hP3.facts
       rw [← hq1.out] at g1
       have HP3 := Lib.hid hP3
       have HG3 := Lib.hid hG3
       have HO3 := Lib.hid hO3
       clear hP3 hG3 hO3 HPH HGH HOH
       refine wp_region_held_drew (S := fun W => W.cell? ⟨g, 0, none⟩ = some (.string s) ∧ W.cell? ⟨g, 1, none⟩ = some (.int .i64 ((q : Int) + 1))) (by kernel_rfl) (And.intro g0 g1) (fun hHeld => ?_)
       refine tkr 0 rfl ?_
       try simp only [nrm, Act.put]
       refine tkr 1 rfl ?_
       try simp only [nrm, Act.put]
       refine tkr 2 rfl ?_
       try simp only [nrm, Act.put]
       refine tkr 3 rfl ?_
       try simp only [nrm, Act.put]
       refine tkr 4 rfl ?_
       try simp only [nrm, Act.put]
       refine tkr 5 rfl ?_
       try simp only [nrm, Act.put]
       refine tkr 6 rfl ?_
       try simp only [nrm, Act.put]
       refine tkr 7 rfl ?_
       try simp only [nrm, Act.put]
       refine tkr 8 rfl ?_
       try simp only [nrm, Act.put]
       refine rd1 9 rfl fun K hK => ?_
       go_simp
       go_at_call 133
       with_reducible refine (CE.out _).mono ?_
       rintro _ w9 ⟨rfl, n9, rfl⟩
       refine hK.out _ _ (And.intro g0 g1) (fun hHeld => ?_)
       clear hK K
       try simp only [nrm, Act.put]
       refine tkr 10 rfl ?_
       try simp only [nrm, Act.put]
       refine tkr 11 rfl ?_
       try simp only [nrm, Act.put]
       refine tkr 12 rfl ?_
       try simp only [nrm, Act.put]
       refine tkr 13 rfl ?_
       try simp only [nrm, Act.put]
       refine tkr 14 rfl ?_
       try simp only [nrm, Act.put]
       refine wpAnyH_done (by kernel_rfl) ?_ _
       have hP4 : PAt (W3.drew.drewN n9) g s (q + 1) := HP3.out
       have hG4 : w.grownBy (W3.drew.drewN n9) (some g) := ⟨HG3.out.os, HG3.out.tape, HG3.out.output, HG3.out.size, HG3.out.block⟩
       have hO4 : (W3.drew.drewN n9).ownsRow w.heap.size 5 1 u3 acc.length (Lib.byteCells acc) := HO3.out
       generalize W3.drew.drewN n9 = W4 at hP4 hG4 hO4 ⊢
       obtain ⟨j0, j1, j2⟩ := hP4.facts
       rw [← hq1.out] at j1
       have HP4 := Lib.hid hP4
       have HG4 := Lib.hid hG4
       have HO4 := Lib.hid hO4
       clear hHeld hP4 hG4 hO4 HP3 HG3 HO3 g0 g1
       have HQ2 : Hid ((q : Int) + 1 + (n : Int) = ((q + 1 + n : Nat) : Int)) := by show _ = _; omega
       have hput := HP4.out.put (q + 1 + n) (by omega)
       rw [← HQ2.out] at hput
       have HGG := Lib.hid (grown_then HG4.out hput.2 (fun q e => by injection e with e; exact .inl e.symm))
       have HPP := Lib.hid hput.1
       have hoo := own_put HO4.out (p := ⟨g, 1, none⟩) hgl (.int .i64 ((q : Int) + 1 + (n : Int)))
       have HOO := Lib.hid hoo
       clear hput HG4 HP4 HO4 hoo
       obtain ⟨W5, hW5⟩ : ∃ W5, W4.setCell ⟨g, 1, none⟩ (.int .i64 ((q : Int) + 1 + (n : Int))) = W5 := ⟨_, rfl⟩
       rw [hW5] at HGG HPP HOO
       have hrd5 := reads_row W5 5 [.int .u8 (x : Int)]
       have hls5 : w.heap.size ≤ W5.heap.size := HGG.out.size
       go_wp2_with (at_builtin; refine wpList_append_any (W5.alloc (.cells #[.int .u8 (x : Int)] 5)) rfl (.tmp 78) (.tmp 80) 31 rfl w.heap.size 5 i0 (.int .u8 0) 1 1 Tryz.underlying31 hi hz0 hz1 hz2 rfl (by decide) u3 acc.length (Lib.byteCells acc) rfl (HOO.out.alloc _) (W5.heap.size + 1) _ 1 1 _ rfl hrd5 (by simp [Value.oneCell']) (by unfold maxLen; omega) (by omega) (by simp; omega) ?_; intro v' w2 hown2 hg2 _)
       have hne5 : ∀ q', u3.ownBlock = some q' → w.heap.size ≤ q' := fun q' e => ((HOO.out).lt q' e).1
       have hba := (Below.refl W5.heap.size W5).alloc (Nat.le_refl _) (.cells #[.int .u8 (x : Int)] 5)
       have HP6 := Lib.hid ((HPP.out.below hba).grown hg2 (fun e => by have := hne5 g e.symm; omega))
       have HG6 := Lib.hid (grown_then (grown_below2 HGG.out hba) hg2 (fun q' e => .inr (hne5 q' e)))
       have HO6 := Lib.hid (own_next (o' := acc ++ [eb]) (news := [eb]) hown2 (by simp [Lib.byteCells, HX.out]) rfl rfl)
       have hc6 := HP6.out.facts.2.1
       refine ⟨⟨q + 1 + n, f, _, by omega, by omega, by simp; omega, HP6, HO6, hv, HG6⟩, ?_⟩
       rw [hc6, c1]
       simp
       omega
     ·
      have hne92 : ¬ UInt8.ofNat b = 92 := by simp [← UInt8.toNat_inj]; omega
      have d3 : ((b : Int) == 92) = false := by simp; omega
      have hv : Hid (textR (s.data.toList.drop p) = strR f (acc ++ [UInt8.ofNat b]) (s.data.toList.drop (q + 1))) := by
       show _ = _
       rw [hs.out, hd, strR, if_neg hne, if_neg hnl, if_neg hne92]
      have HX : Hid ((UInt8.ofNat b).toNat = b) := by show _ = _; simp; omega
      have c1' := Lib.hid c1
      clear hd hrd eA
      go_wp2_with fail
      go_quiet (fail)
      revert nq; intro m1
      go_wp2_with fail
      go_quiet (fail)
      have HPP := Lib.hid (HPH.out (m1 + nq))
      have HGG := Lib.hid (HGH.out (m1 + nq))
      have HOO := Lib.hid (HOH.out (m1 + nq))
      obtain ⟨W5, hW5⟩ : ∃ W5, (wr.drewN (m1 + nq)).setCell ⟨g, 1, none⟩ (.int .i64 ((q : Int) + 1)) = W5 := ⟨_, rfl⟩
      rw [hW5] at HGG HPP HOO
      have hrd5 := reads_row W5 5 [.int .u8 (b : Int)]
      have hls5 : w.heap.size ≤ W5.heap.size := HGG.out.size
      clear HPH HGH HOH
      go_wp2_with (at_builtin; refine wpList_append_any (W5.alloc (.cells #[.int .u8 (b : Int)] 5)) rfl (.tmp 78) (.tmp 80) 31 rfl w.heap.size 5 i0 (.int .u8 0) 1 1 Tryz.underlying31 hi hz0 hz1 hz2 rfl (by decide) u3 acc.length (Lib.byteCells acc) rfl (HOO.out.alloc _) (W5.heap.size + 1) _ 1 1 _ rfl hrd5 (by simp [Value.oneCell']) (by unfold maxLen; omega) (by omega) (by simp; omega) ?_; intro v' w2 hown2 hg2 _)
      have hne5 : ∀ q', u3.ownBlock = some q' → w.heap.size ≤ q' := fun q' e => ((HOO.out).lt q' e).1
      have hba := (Below.refl W5.heap.size W5).alloc (Nat.le_refl _) (.cells #[.int .u8 (b : Int)] 5)
      have HP6 := Lib.hid ((HPP.out.below hba).grown hg2 (fun e => by have := hne5 g e.symm; omega))
      have HG6 := Lib.hid (grown_then (grown_below2 HGG.out hba) hg2 (fun q' e => .inr (hne5 q' e)))
      have HO6 := Lib.hid (own_next (o' := acc ++ [(UInt8.ofNat b)]) (news := [(UInt8.ofNat b)]) hown2 (by simp [Lib.byteCells, HX.out]) rfl rfl)
      have hc6 := HP6.out.facts.2.1
      refine ⟨⟨q + 1, f, _, by omega, by omega, by simp; omega, HP6, HO6, hv, HG6⟩, ?_⟩
      rw [hc6, c1'.out]
      simp
      omega
  ·
   obtain rfl : q = s.size := by omega
   obtain ⟨f, rfl⟩ : ∃ f', f = f' + 1 := ⟨f - 1, by omega⟩
   have hv : Hid (textW (s.data.toList.drop p) = (.none, [])) := by
    show _ = _
    rw [textW, hs.out, drop_end (Nat.lt_irrefl _), strR]
   go_wp2_with fail
   go_quiet (fail)
   go_wp2_with fail
   go_ret
   exact wordR_none hv.out rfl (hP.out.dn nq) (grown_dn hg.out nq)
end Go.Proofs.YtieppmppdmcleaaGreatDoor

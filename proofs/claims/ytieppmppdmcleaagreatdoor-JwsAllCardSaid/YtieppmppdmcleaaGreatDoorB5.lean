/- countersignref12's reader: its box, fail, blanks, at, want, word, small. Condition: a text of at most 1000000 bytes. -/
import Derived.Test.YtieppmppdmcleaaGreatDoorBC
import Derived.Test.YtieppmppdmcleaaGreatDoorB3
set_option linter.unusedVariables false
set_option linter.unusedSimpArgs false
set_option maxRecDepth 20000
namespace Go.Proofs.YtieppmppdmcleaaGreatDoor
open Go.RowKit Go.Maps
def RAt (w : World) (g : Nat) (s : ByteArray) (p e : Nat) : Prop := Blk w g 87 #[.string s, .int .i64 (p : Int), .int .i64 (e : Int)] ∧ p ≤ s.size ∧ s.size ≤ 1000000
section
variable {w w' : World} {g p e : Nat} {s : ByteArray}
theorem RAt.lt (h : RAt w g s p e) : g < w.heap.size := h.1.lt
theorem RAt.below (h : RAt w g s p e) (hb : Below w.heap.size w w') : RAt w' g s p e := ⟨h.1.below hb h.1.lt, h.2⟩
theorem RAt.grown (h : RAt w g s p e) {row : Option Nat} (hb : w.grownBy w' row) (hg : some g ≠ row) : RAt w' g s p e := ⟨h.1.grown hb hg, h.2⟩
theorem RAt.dn (h : RAt w g s p e) (n : Nat) : RAt (w.drewN n) g s p e := h
theorem RAt.facts (h : RAt w g s p e) : w.cell? ⟨g, 0, none⟩ = some (.string s) ∧ w.cell? ⟨g, 1, none⟩ = some (.int .i64 (p : Int)) ∧ w.frozen? ⟨g, 1, none⟩ = false ∧ w.cell? ⟨g, 2, none⟩ = some (.int .i64 (e : Int)) ∧ w.frozen? ⟨g, 2, none⟩ = false := ⟨h.1.cell 0, h.1.cell 1, h.1.frozen 1, h.1.cell 2, h.1.frozen 2⟩
theorem RAt.put (h : RAt w g s p e) (q : Nat) (hq : q ≤ s.size) : RAt (w.setCell ⟨g, 1, none⟩ (.int .i64 (q : Int))) g s q e ∧ w.grownBy (w.setCell ⟨g, 1, none⟩ (.int .i64 (q : Int))) (some g) := by
 refine ⟨⟨?_, hq, h.2.2⟩, ⟨rfl, rfl, rfl, by simp, fun i _ hne => Below.heap_setCell _ _ _ _ (fun e => hne (by rw [e]))⟩⟩
 have := h.1.set_ 1 (.int .i64 (q : Int))
 simpa using this
theorem RAt.err (h : RAt w g s p e) (f : Nat) : RAt (w.setCell ⟨g, 2, none⟩ (.int .i64 (f : Int))) g s p f ∧ w.grownBy (w.setCell ⟨g, 2, none⟩ (.int .i64 (f : Int))) (some g) := by
 refine ⟨⟨?_, h.2⟩, ⟨rfl, rfl, rfl, by simp, fun i _ hne => Below.heap_setCell _ _ _ _ (fun e => hne (by rw [e]))⟩⟩
 have := h.1.set_ 2 (.int .i64 (f : Int))
 simpa using this
end
def DoneR (g : Nat) (s : ByteArray) (p e : Nat) (w : World) (f : Ending) (w' : World) : Prop := f = .returned (.tuple #[]) ∧ RAt w' g s p e ∧ w.grownBy w' (some g)
theorem fail_walk (g : Nat) (s : ByteArray) (p e er : Nat) (w : World) (h : RAt w g s p e) :
  Calls Tryz.prog 55 #[.pointer (some ⟨g, 0, none⟩), .int .i64 (er : Int)] w (DoneR g s p (if e = 0 then er else e) w) := by
 obtain ⟨c0, c1, f1, c2, f2⟩ := h.facts
 have H := Lib.hid h
 clear h
 by_cases he : e = 0
 ·
  subst he
  go_enter Tryz.func55, Tryz.ntmps55
  go_wp2_with fail
  refine bodyPost_end (results_none rfl _ _ _) rfl ?_
  exact ⟨rfl, (H.out.err er).1, (H.out.err er).2⟩
 ·
  have e1 : ((e : Int) == 0) = false := by simp; omega
  have e2 : ((e : Int) != 0) = true := by simp; omega
  have HE := Lib.hid he
  clear he
  go_enter Tryz.func55, Tryz.ntmps55
  go_wp2_with fail
  refine bodyPost_end (results_none rfl _ _ _) rfl ?_
  exact ⟨rfl, H.out, only_refl _ _⟩
theorem blank_in (c : Nat) (hc : c < 256) : ([9, 10, 13, 32] : List UInt8).any (fun b => b.toNat == c) = isBlank (UInt8.ofNat c) := by
 have : ∀ c : Fin 256, ([9, 10, 13, 32] : List UInt8).any (fun b => b.toNat == c.val) = isBlank (UInt8.ofNat c.val) := by decide +kernel
 exact this ⟨c, hc⟩
def SkipR (g : Nat) (s : ByteArray) (p e : Nat) (w : World) (f : Ending) (w' : World) : Prop := ∃ q, f = .returned (.tuple #[]) ∧ RAt w' g s q e ∧ s.data.toList.drop q = skipB (s.data.toList.drop p) ∧ w.grownBy w' (some g)
set_option maxHeartbeats 4000000 in
theorem rblanks_walk (g : Nat) (s : ByteArray) (p e : Nat) (w : World) (h : RAt w g s p e) :
  Calls Tryz.prog 54 #[.pointer (some ⟨g, 0, none⟩)] w (SkipR g s p e w) := by
 have H := Lib.hid h
 have hsm := h.2.2
 have hp := h.2.1
 clear h
 go_enter Tryz.func54, Tryz.ntmps54
 go_wp2_with fail
 go_loopw [2] (fun _ wr => ∃ q, q ≤ s.size ∧ Hid (RAt wr g s q e) ∧ Hid (skipB (s.data.toList.drop p) = skipB (s.data.toList.drop q)) ∧ Hid (w.grownBy wr (some g))) (fun _ wr => s.size - (match wr.cell? ⟨g, 1, none⟩ with | some (.int _ n) => n.toNat | _ => 0))
 case atStart => exact ⟨p, hp, H, rfl, only_refl _ _⟩
 case round =>
  clear H
  obtain ⟨q, hq, hP, hs, hg⟩ := hrel
  obtain ⟨c0, c1, f1, -, -⟩ := hP.out.facts
  by_cases hlt : q < s.size
  ·
   obtain ⟨b, eb, hb2⟩ : ∃ b : Nat, (s[q]'hlt).toNat = b ∧ b < 256 := ⟨_, rfl, (s[q]'hlt).toNat_lt⟩
   have hd := drop_cons hlt eb
   have ci := fun W => rin_walk b ⟨#[9, 10, 13, 32]⟩ [9, 10, 13, 32] rfl W (by decide)
   rw [blank_in b hb2] at ci
   have CI := Lib.hid ci
   have i1 := fun W => run_index_at (P := Tryz.prog) 9 Tryz.underlying9 s q b hlt eb W
   clear ci
   cases hbl : isBlank (UInt8.ofNat b)
   ·
    rw [hbl] at CI
    have hv : Hid (s.data.toList.drop q = skipB (s.data.toList.drop p)) := by
     show _ = _
     rw [hs.out, hd, skipB, List.dropWhile_cons_of_neg (by simp [hbl])]
    clear hd hbl
    go_wp2_with fail
    go_quiet ((go_at_call 86; refine (CI.out _).mono ?_; rintro e w9 ⟨rfl, rfl⟩; exact ⟨rfl, _, rfl⟩))
    go_wp2_with fail
    refine bodyPost_end (results_none rfl _ _ _) rfl ?_
    exact ⟨q, rfl, hP.out.dn nq, hv.out, grown_dn hg.out nq⟩
   ·
    rw [hbl] at CI
    have hv : Hid (skipB (s.data.toList.drop p) = skipB (s.data.toList.drop (q + 1))) := by
     show _ = _
     rw [hs.out, hd, skipB, List.dropWhile_cons_of_pos (by simp [hbl])]
     rfl
    have hq1 : Hid ((q : Int) + 1 = ((q + 1 : Nat) : Int)) := by show _ = _; omega
    have HPN := fun n => (hP.out.dn n).put (q + 1) (by omega)
    have HPH := Lib.hid HPN
    clear hd hbl HPN
    go_wp2_with fail
    go_quiet ((go_at_call 86; refine (CI.out _).mono ?_; rintro e w9 ⟨rfl, rfl⟩; exact ⟨rfl, _, rfl⟩))
    have hput := HPH.out nq
    rw [← hq1.out] at hput
    have hgg := grown_then (grown_dn hg.out nq) hput.2 (fun q e => by injection e with e; exact .inl e.symm)
    have hcell := hput.1.facts.2.1
    have HA := Lib.hid hput.1
    have HG := Lib.hid hgg
    clear hput hgg
    go_wp2_with fail
    refine ⟨⟨q + 1, by omega, HA, hv, HG⟩, ?_⟩
    rw [hcell, c1]
    simp
    omega
  ·
   obtain rfl : q = s.size := by omega
   have hv : Hid (s.data.toList.drop s.size = skipB (s.data.toList.drop p)) := by
    show _ = _
    rw [hs.out, drop_end (Nat.lt_irrefl _)]; rfl
   go_wp2_with fail
   go_quiet (fail)
   go_wp2_with fail
   refine bodyPost_end (results_none rfl _ _ _) rfl ?_
   exact ⟨s.size, rfl, hP.out.dn nq, hv.out, grown_dn hg.out nq⟩
def atB (l : List UInt8) (c : UInt8) : Bool := match l with | [] => false | x :: _ => decide (x = c)
theorem at_walk (g : Nat) (s : ByteArray) (p e : Nat) (c : UInt8) (w : World) (h : RAt w g s p e) :
  Calls Tryz.prog 80 #[.pointer (some ⟨g, 0, none⟩), .int .u8 (c.toNat : Int)] w fun f w' => f = .returned (.bool (atB (s.data.toList.drop p) c)) ∧ ∃ n, w' = w.drewN n := by
 obtain ⟨c0, c1, f1, -, -⟩ := h.facts
 have hp := h.2.1
 have hsm := h.2.2
 have H := Lib.hid h
 clear h
 by_cases hlt : p < s.size
 ·
  obtain ⟨b, eb, hb2⟩ : ∃ b : Nat, (s[p]'hlt).toNat = b ∧ b < 256 := ⟨_, rfl, (s[p]'hlt).toNat_lt⟩
  have hd := drop_cons hlt eb
  have i1 := fun W => run_index_at (P := Tryz.prog) 9 Tryz.underlying9 s p b hlt eb W
  have hv : Hid (((b : Int) == (c.toNat : Int)) = atB (s.data.toList.drop p) c) := by
   show _ = _
   rw [hd]
   have := u8_beq (UInt8.ofNat b) c
   rw [show (UInt8.ofNat b).toNat = b by simp; omega] at this
   exact this
  generalize (c.toNat : Int) = cz at *
  clear hd
  go_enter Tryz.func80, Tryz.ntmps80
  go_wp2_with fail
  go_quiet (fail)
  go_wp2_with fail
  go_ret
  exact ⟨by rw [← hv.out]; rfl, _, rfl⟩
 ·
  have hv : Hid (atB (s.data.toList.drop p) c = false) := by show _ = _; rw [drop_end hlt]; rfl
  obtain rfl : p = s.size := by omega
  generalize (c.toNat : Int) = cz at *
  go_enter Tryz.func80, Tryz.ntmps80
  go_wp2_with fail
  go_quiet (fail)
  go_wp2_with fail
  go_ret
  exact ⟨by rw [hv.out]; rfl, _, rfl⟩
end Go.Proofs.YtieppmppdmcleaaGreatDoor
/- countersignref12's reader: want, word, small, escape. Condition: a text of at most 1000000 bytes. -/
namespace Go.Proofs.YtieppmppdmcleaaGreatDoor
open Go.RowKit Go.Maps
def WantR (g : Nat) (s : ByteArray) (l : List UInt8) (c : UInt8) (w : World) (f : Ending) (w' : World) : Prop :=
 ∃ q, f = .returned (.tuple #[]) ∧ w.grownBy w' (some g) ∧ RAt w' g s q (if atB (skipB l) c then 0 else 3) ∧ (atB (skipB l) c = true → s.data.toList.drop q = (skipB l).tail)
theorem atB_true {l : List UInt8} {c : UInt8} (h : atB l c = true) : ∃ r, l = c :: r := by
 cases l with
 | nil => simp [atB] at h
 | cons x r => simp [atB] at h; exact ⟨r, by rw [h]⟩
theorem drop_succ {s : ByteArray} {p : Nat} {c : UInt8} {r : List UInt8} (h : s.data.toList.drop p = c :: r) : p < s.size ∧ s.data.toList.drop (p + 1) = r := by
 have h1 := congrArg List.length h
 rw [List.length_drop, List.length_cons] at h1
 have h2 : s.data.toList.length = s.size := by simp
 refine ⟨by omega, ?_⟩
 rw [← List.drop_drop, h]
 rfl
theorem want_walk (g : Nat) (s : ByteArray) (p : Nat) (c : UInt8) (w : World) (h : RAt w g s p 0) :
  Calls Tryz.prog 112 #[.pointer (some ⟨g, 0, none⟩), .int .u8 (c.toNat : Int)] w (WantR g s (s.data.toList.drop p) c w) := by
 have cb := Lib.hid (rblanks_walk g s p 0 w h)
 have hsm := h.2.2
 clear h
 generalize hcz : (c.toNat : Int) = cz
 have HCZ := Lib.hid hcz
 clear hcz
 go_enter Tryz.func112, Tryz.ntmps112
 go_wp2_with fail
 refine cb.out.mono ?_
 rintro _ w1 ⟨q, rfl, hP, hd, hg⟩
 have ca := at_walk g s q 0 c w1 hP
 rw [hd, HCZ.out] at ca
 have CA := Lib.hid ca
 have HP := Lib.hid hP
 have HD := Lib.hid hd
 have HG := Lib.hid hg
 clear ca hP hd hg cb
 go_wp2_with fail
 refine CA.out.mono ?_
 rintro _ w2 ⟨rfl, n, rfl⟩
 cases hb : atB (skipB (s.data.toList.drop p)) c
 ·
  have cf := Lib.hid (fail_walk g s q 0 3 (w1.drewN n) (HP.out.dn n))
  have HB := Lib.hid hb
  clear hb
  go_wp2_with fail
  refine cf.out.mono ?_
  rintro _ w3 ⟨rfl, hR, hg3⟩
  go_wp2_with fail
  refine bodyPost_end (results_none rfl _ _ _) rfl ?_
  exact ⟨q, rfl, grown_then (grown_dn HG.out n) hg3 (fun q e => .inl (by injection e with e; exact e.symm)), by rw [HB.out]; exact hR, fun h => by rw [HB.out] at h; simp at h⟩
 ·
  obtain ⟨r, hr⟩ := atB_true hb
  have hds := drop_succ (HD.out.trans hr)
  obtain ⟨c0, c1, f1, -, -⟩ := (HP.out.dn n).facts
  have hput := (HP.out.dn n).put (q + 1) (by omega)
  have hq1 : (q : Int) + 1 = ((q + 1 : Nat) : Int) := by omega
  rw [← hq1] at hput
  have HPU := Lib.hid hput
  have HB := Lib.hid hb
  have HDS := Lib.hid hds
  have HR := Lib.hid hr
  have hqs : q < s.size := hds.1
  clear hb hput hq1 hds hr
  go_wp2_with fail
  refine bodyPost_end (results_none rfl _ _ _) rfl ?_
  exact ⟨q + 1, rfl, grown_then (grown_dn HG.out n) HPU.out.2 (fun q e => .inl (by injection e with e; exact e.symm)), by rw [HB.out]; exact HPU.out.1, fun _ => by rw [HDS.out.2, HR.out]; rfl⟩
theorem small_walk (c : Nat) (hc : c < 256) (w : World) : Calls Tryz.prog 138 #[.int .u8 (c : Int)] w fun f w' => f = .returned (.int .i64 (smallI c)) ∧ w = w' := by
 have cd := Lib.hid (rdigit_walk c w)
 by_cases h1 : 48 ≤ c ∧ c ≤ 57
 ·
  have hv : Hid (smallI c = ((c - 48 : Nat) : Int)) := by
   have : ∀ c : Fin 256, 48 ≤ c.val ∧ c.val ≤ 57 → smallI c.val = ((c.val - 48 : Nat) : Int) := by decide +kernel
   exact this ⟨c, hc⟩ h1
  have hd : digitB c = true := by simp [digitB]; omega
  have hw1 : IntKind.u8.wrap ((c : Int) - 48) = ((c - 48 : Nat) : Int) := by rw [wrap_u8]; omega
  rw [hd] at cd
  clear hd h1
  go_enter Tryz.func138, Tryz.ntmps138
  go_wp2_with fail
  refine cd.out.mono ?_
  rintro _ w1 ⟨rfl, rfl⟩
  go_wp2_with fail
  go_ret
  exact ⟨by rw [hv.out]; rfl, rfl⟩
 ·
  have hd : digitB c = false := by simp [digitB]; omega
  rw [hd] at cd
  by_cases h2 : 97 ≤ c ∧ c ≤ 102
  ·
   have hv : Hid (smallI c = ((c - 97 : Nat) : Int) + 10) := by
    have : ∀ c : Fin 256, 97 ≤ c.val ∧ c.val ≤ 102 → smallI c.val = ((c.val - 97 : Nat) : Int) + 10 := by decide +kernel
    exact this ⟨c, hc⟩ h2
   have hw1 : IntKind.u8.wrap ((c : Int) - 97) = ((c - 97 : Nat) : Int) := by rw [wrap_u8]; omega
   have d1 : decide ((97 : Int) ≤ (c : Int)) = true := by simp; omega
   have d2 : decide ((c : Int) ≤ 102) = true := by simp; omega
   have d3 : decide (97 ≤ c) = true := by simp; omega
   have d4 : decide (c ≤ 102) = true := by simp; omega
   have hlt : c - 97 ≤ 5 := by omega
   clear hd h1 h2
   go_enter Tryz.func138, Tryz.ntmps138
   go_wp2_with fail
   refine cd.out.mono ?_
   rintro _ w1 ⟨rfl, rfl⟩
   go_wp2_with fail
   go_ret
   exact ⟨by rw [hv.out]; rfl, rfl⟩
  ·
   have hv : Hid (smallI c = -1) := by
    have : ∀ c : Fin 256, ¬ (48 ≤ c.val ∧ c.val ≤ 57) → ¬ (97 ≤ c.val ∧ c.val ≤ 102) → smallI c.val = -1 := by decide +kernel
    exact this ⟨c, hc⟩ h1 h2
   have hx : (decide ((97 : Int) ≤ (c : Int)) = false ∧ decide (97 ≤ c) = false) ∨ (decide ((97 : Int) ≤ (c : Int)) = true ∧ decide (97 ≤ c) = true ∧ decide ((c : Int) ≤ 102) = false ∧ decide (c ≤ 102) = false) := by
    by_cases h3 : 97 ≤ c
    ·
     right; refine ⟨by simp; omega, by simp; omega, by simp; omega, by simp; omega⟩
    ·
     left; exact ⟨by simp; omega, by simp; omega⟩
   clear hd h1 h2
   rcases hx with ⟨d1, d2⟩ | ⟨d1, d2, d3, d4⟩
   all_goals
    go_enter Tryz.func138, Tryz.ntmps138
    go_wp2_with fail
    refine cd.out.mono ?_
    rintro _ w1 ⟨rfl, rfl⟩
    go_wp2_with fail
    go_ret
    exact ⟨by rw [hv.out]; rfl, rfl⟩
end Go.Proofs.YtieppmppdmcleaaGreatDoor

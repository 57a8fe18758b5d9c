/- countersignref12's reader: word, escape. Condition: a text of at most 1000000 bytes. -/
import Derived.Test.YtieppmppdmcleaaGreatDoorB5
import Derived.Test.YtieppmppdmcleaaGreatDoorRj
import Derived.Test.YtieppmppdmcleaaGreatDoorJ4
set_option linter.unusedVariables false
set_option linter.unusedSimpArgs false
set_option maxRecDepth 20000
set_option maxHeartbeats 16000000
namespace Go.Proofs.YtieppmppdmcleaaGreatDoor
open Go.RowKit Go.Maps
def TakeR (g : Nat) (s : ByteArray) (p n : Nat) (ok : Bool) (w : World) (f : Ending) (w' : World) : Prop := f = .returned (.tuple #[]) ∧ w.grownBy w' (some g) ∧ RAt w' g s (if ok then p + n else p) (if ok then 0 else 3)
theorem word_walk (g : Nat) (s : ByteArray) (p : Nat) (ws : ByteArray) (wl : List UInt8) (hw : ws.data.toList = wl) (hws : ws.size ≤ 10) (w : World) (h : RAt w g s p 0) :
  Calls Tryz.prog 81 #[.pointer (some ⟨g, 0, none⟩), .string ws] w (TakeR g s p wl.length (wl.isPrefixOf (s.data.toList.drop p)) w) := by
 obtain ⟨c0, c1, f1, -, -⟩ := h.facts
 have hp := h.2.1
 have hsm := h.2.2
 have hwl : wl.length = ws.size := by rw [← hw]; simp
 have hsl : s.data.toList.length = s.size := by simp
 have H := Lib.hid h
 clear h
 have w1 : IntKind.i64.wrap ((s.size : Int) - (p : Int)) = ((s.size - p : Nat) : Int) := by rw [IntKind.wrap_i64]; omega
 have w2 : IntKind.i64.wrap ((p : Int) + (ws.size : Int)) = ((p + ws.size : Nat) : Int) := by rw [IntKind.wrap_i64]; omega
 by_cases hlt : s.size - p < ws.size
 ·
  have hv : Hid (wl.isPrefixOf (s.data.toList.drop p) = false) := by
   show _ = _
   cases hx : wl.isPrefixOf (s.data.toList.drop p) with
   | false => rfl
   | true =>
    have := (List.isPrefixOf_iff_prefix.1 hx).length_le
    rw [List.length_drop] at this
    omega
  have d1 : decide (((s.size - p : Nat) : Int) < (ws.size : Int)) = true := by simp; omega
  have d2 : decide (s.size - p < ws.size) = true := by simp; omega
  have cf := fun n => fail_walk g s p 0 3 (w.drewN n) (H.out.dn n)
  have CF := Lib.hid cf
  clear cf hwl hsl hw
  go_enter Tryz.func81, Tryz.ntmps81
  go_wp2_with fail
  go_quiet (fail)
  go_wp2_with fail
  refine (CF.out nq).mono ?_
  rintro _ w3 ⟨rfl, hR, hg3⟩
  go_wp2_with fail
  refine bodyPost_end (results_none rfl _ _ _) rfl ?_
  exact ⟨rfl, grown_then (grown_dn (only_refl w (some g)) nq) hg3 (fun q e => .inl (by injection e with e; exact e.symm)), by rw [hv.out]; exact hR⟩
 ·
  have d1 : decide (((s.size - p : Nat) : Int) < (ws.size : Int)) = false := by simp; omega
  have d2 : decide (s.size - p < ws.size) = false := by simp; omega
  have hle : p + ws.size ≤ s.size := by omega
  have hleI : ((p + ws.size : Nat) : Int) ≤ (s.size : Int) := by omega
  have hex : (s.extract p (p + ws.size)).data.toList = (s.data.toList.drop p).take ws.size := by rw [extract_list, Nat.add_sub_cancel_left]
  have hcmp : ((s.extract p (p + ws.size)).toList == ws.toList) = wl.isPrefixOf (s.data.toList.drop p) := by
   rw [ByteArray.toList_eq, ByteArray.toList_eq, hex, hw, Bool.eq_iff_iff, beq_iff_eq, List.isPrefixOf_iff_prefix, ← hwl, List.prefix_iff_eq_take]
   exact eq_comm
  cases hb : wl.isPrefixOf (s.data.toList.drop p)
  ·
   rw [hb] at hcmp
   have hcmp2 : (!((s.extract p (p + ws.size)).toList == ws.toList)) = true := by rw [hcmp]; rfl
   have cf := fun n => fail_walk g s p 0 3 (w.drewN n) (H.out.dn n)
   have CF := Lib.hid cf
   have HB := Lib.hid hb
   clear cf hwl hsl hw hex hb
   go_enter Tryz.func81, Tryz.ntmps81
   go_wp2_with fail
   go_quiet (fail)
   go_wp2_with fail
   refine (CF.out nq).mono ?_
   rintro _ w3 ⟨rfl, hR, hg3⟩
   go_wp2_with fail
   refine bodyPost_end (results_none rfl _ _ _) rfl ?_
   exact ⟨rfl, grown_then (grown_dn (only_refl w (some g)) nq) hg3 (fun q e => .inl (by injection e with e; exact e.symm)), hR⟩
  ·
   rw [hb] at hcmp
   have hcmp2 : (!((s.extract p (p + ws.size)).toList == ws.toList)) = false := by rw [hcmp]; rfl
   have HPU := Lib.hid (fun n => (H.out.dn n).put (p + ws.size) hle)
   have HWL := Lib.hid hwl
   clear hwl hsl hw hex hb
   go_enter Tryz.func81, Tryz.ntmps81
   go_wp2_with fail
   go_quiet (fail)
   go_wp2_with fail
   refine bodyPost_end (results_none rfl _ _ _) rfl ?_
   exact ⟨rfl, grown_then (grown_dn (only_refl w (some g)) nq) (HPU.out nq).2 (fun q e => .inl (by injection e with e; exact e.symm)), by rw [HWL.out]; exact (HPU.out nq).1⟩
def EscW (g : Nat) (s : ByteArray) (p : Nat) (r : Option (UInt8 × Nat)) (w : World) (f : Ending) (w' : World) : Prop :=
 w.grownBy w' (some g) ∧ match r with
  | some (b, n) => f = .returned (.int .u8 (b.toNat : Int)) ∧ RAt w' g s (p + n) 0
  | none => ∃ (x q : Nat), p ≤ q ∧ f = .returned (.int .u8 (x : Int)) ∧ x < 256 ∧ RAt w' g s q 3
theorem escR_short {c : UInt8} {r : List UInt8} (hq : ¬ (c = 34 ∨ c = 92)) (h : ([117, 48, 48] : List UInt8).isPrefixOf (c :: r) = false) : escR (c :: r) = none := by
 rw [escR, if_neg hq]
 split
 ·
  rename_i he
  rw [he] at h
  simp at h
 ·
  rfl
theorem escR_few {r : List UInt8} (h : r.length < 2) : escR (117 :: 48 :: 48 :: r) = none := by
 rw [escR, if_neg (by decide)]
 split
 ·
  rename_i he
  injection he with _ he
  injection he with _ he
  injection he with _ he
  subst he
  simp at h
  omega
 ·
  rfl
theorem esc_cases (a b : Nat) (ha : a < 256) (hb : b < 256) (r : List UInt8) :
  ((smallI a < 0 ∨ 1 < smallI a ∨ smallI b < 0) ∧ escR (117 :: 48 :: 48 :: UInt8.ofNat a :: UInt8.ofNat b :: r) = none) ∨
  (∃ (x : Fin 2) (y : Fin 16), smallI a = (x.val : Int) ∧ smallI b = (y.val : Int) ∧ escR (117 :: 48 :: 48 :: UInt8.ofNat a :: UInt8.ofNat b :: r) = some (UInt8.ofNat (x.val * 16 + y.val), 5)) := by
 rw [escR_hex]
 unfold smallI
 cases h3 : smallN (UInt8.ofNat a) with
 | none => exact .inl ⟨.inl (by simp), rfl⟩
 | some x =>
  cases h4 : smallN (UInt8.ofNat b) with
  | none => exact .inl ⟨.inr (.inr (by simp)), rfl⟩
  | some y =>
   have hy := smallN_lt b hb y h4
   by_cases hx : x ≤ 1
   ·
    right
    exact ⟨⟨x, by omega⟩, ⟨y, hy⟩, rfl, rfl, by simp only; rw [if_pos hx]⟩
   ·
    left
    exact ⟨.inr (.inl (by simp; omega)), by simp only; rw [if_neg hx]⟩
theorem escape_walk (g : Nat) (s : ByteArray) (p : Nat) (w : World) (h : RAt w g s p 0) :
  Calls Tryz.prog 113 #[.pointer (some ⟨g, 0, none⟩)] w (EscW g s p (escR (s.data.toList.drop p)) w) := by
 have hsm := h.2.2
 have hp := h.2.1
 have hlen : ∀ k, (s.data.toList.drop k).length = s.size - k := fun k => by simp
 have HLEN := Lib.hid hlen
 have c34 := at_walk g s p 0 34 w h
 have c92 := fun n => at_walk g s p 0 92 (w.drewN n) (h.dn n)
 have cwd := fun n => word_walk g s p ⟨#[117, 48, 48]⟩ [117, 48, 48] rfl (by decide) (w.drewN n) (h.dn n)
 have H := Lib.hid h
 obtain ⟨a34, h34⟩ : ∃ b, atB (s.data.toList.drop p) 34 = b := ⟨_, rfl⟩
 obtain ⟨a92, h92⟩ : ∃ b, atB (s.data.toList.drop p) 92 = b := ⟨_, rfl⟩
 rw [h34] at c34
 rw [h92] at c92
 have C34 := Lib.hid c34
 have C92 := Lib.hid c92
 clear c34 c92 h hlen
 by_cases hq : a34 = true ∨ a92 = true
 ·
  -- a quote, a backslash
  have hc : ∃ (b : Nat) (r : List UInt8), b < 256 ∧ s.data.toList.drop p = UInt8.ofNat b :: r ∧ (UInt8.ofNat b = 34 ∨ UInt8.ofNat b = 92) ∧ ∃ hlt : p < s.size, (s[p]'hlt).toNat = b := by
   have hx : ∃ c r, s.data.toList.drop p = c :: r ∧ (c = 34 ∨ c = 92) := by
    rcases hq with e | e
    ·
     obtain ⟨r, hr⟩ := atB_true (h34.trans e)
     exact ⟨34, r, hr, .inl rfl⟩
    ·
     obtain ⟨r, hr⟩ := atB_true (h92.trans e)
     exact ⟨92, r, hr, .inr rfl⟩
   obtain ⟨c, r, hr, hcc⟩ := hx
   have hlt := (drop_succ hr).1
   have hd := drop_cons hlt rfl
   have e1 := hd.symm.trans hr
   injection e1 with e1 e2
   exact ⟨(s[p]'hlt).toNat, r, (s[p]'hlt).toNat_lt, by rw [e1]; exact hr, by rw [e1]; exact hcc, hlt, rfl⟩
  obtain ⟨b, r, hb, hl, hcc, hlt, eb⟩ := hc
  have hv : Hid (escR (s.data.toList.drop p) = some (UInt8.ofNat b, 1)) := by show _ = _; rw [hl, escR, if_pos hcc]
  have i1 := fun W => run_index_at (P := Tryz.prog) 9 Tryz.underlying9 s p b hlt eb W
  have hq1 : Hid ((p : Int) + 1 = ((p + 1 : Nat) : Int)) := by show _ = _; omega
  have HPH : Hid (∀ n, RAt ((w.drewN n).setCell ⟨g, 1, none⟩ (.int .i64 ((p : Int) + 1))) g s (p + 1) 0) := fun n => by rw [hq1.out]; exact ((H.out.dn n).put (p + 1) (by omega)).1
  have HGH : Hid (∀ n, w.grownBy ((w.drewN n).setCell ⟨g, 1, none⟩ (.int .i64 ((p : Int) + 1))) (some g)) := fun n => by rw [hq1.out]; exact grown_then (grown_dn (only_refl w (some g)) n) ((H.out.dn n).put (p + 1) (by omega)).2 (fun q e => by injection e with e; exact .inl e.symm)
  have hbn : Hid ((b : Int) = ((UInt8.ofNat b).toNat : Int)) := by show _ = _; simp; omega
  have hwp : IntKind.i64.wrap ((p : Int) + 1 - 1) = (p : Int) := by rw [IntKind.wrap_i64]; omega
  have hwp2 : IntKind.i64.wrap (p : Int) = (p : Int) := by rw [IntKind.wrap_i64]; omega
  clear hl hcc cwd h34 h92
  cases a34
  ·
   obtain rfl : a92 = true := by simpa using hq
   clear hq
   go_enter Tryz.func113, Tryz.ntmps113
   go_wp2_with fail
   refine C34.out.mono ?_
   rintro _ w1 ⟨rfl, n1, rfl⟩
   go_wp2_with fail
   refine (C92.out n1).mono ?_
   rintro _ w1 ⟨rfl, n2, rfl⟩
   rw [World.drewN_drewN]
   obtain ⟨c0, c1, f1, -, -⟩ := (H.out.dn (n1 + n2)).facts
   go_wp2_with fail
   have hP2 := HPH.out (n1 + n2)
   have hG2 := HGH.out (n1 + n2)
   generalize (w.drewN (n1 + n2)).setCell ⟨g, 1, none⟩ (.int .i64 ((p : Int) + 1)) = W2 at hP2 hG2 ⊢
   obtain ⟨d0, d1, -, -, -⟩ := hP2.facts
   rw [← hq1.out] at d1
   have HP2 := Lib.hid hP2
   have HG2 := Lib.hid hG2
   clear hP2 hG2 c0 c1 f1
   go_wp2_with fail
   go_quiet (fail)
   go_wp2_with fail
   go_ret
   exact ⟨grown_dn HG2.out nq, by rw [hv.out]; exact ⟨by rw [← hbn.out]; rfl, HP2.out.dn nq⟩⟩
  ·
   clear hq
   go_enter Tryz.func113, Tryz.ntmps113
   go_wp2_with fail
   refine C34.out.mono ?_
   rintro _ w1 ⟨rfl, n1, rfl⟩
   obtain ⟨c0, c1, f1, -, -⟩ := (H.out.dn n1).facts
   go_wp2_with fail
   have hP2 := HPH.out n1
   have hG2 := HGH.out n1
   generalize (w.drewN n1).setCell ⟨g, 1, none⟩ (.int .i64 ((p : Int) + 1)) = W2 at hP2 hG2 ⊢
   obtain ⟨d0, d1, -, -, -⟩ := hP2.facts
   rw [← hq1.out] at d1
   have HP2 := Lib.hid hP2
   have HG2 := Lib.hid hG2
   clear hP2 hG2 c0 c1 f1
   go_wp2_with fail
   go_quiet (fail)
   go_wp2_with fail
   go_ret
   exact ⟨grown_dn HG2.out nq, by rw [hv.out]; exact ⟨by rw [← hbn.out]; rfl, HP2.out.dn nq⟩⟩
 obtain ⟨rfl, rfl⟩ : a34 = false ∧ a92 = false := by simpa using hq
 have CWD := Lib.hid cwd
 clear hq cwd
 have hnq : ∀ c r, s.data.toList.drop p = c :: r → ¬ (c = 34 ∨ c = 92) := fun c r e hcc => by
  rw [e] at h34 h92
  simp [atB] at h34 h92
  rcases hcc with h | h
  ·
   exact h34 h
  ·
   exact h92 h
 clear h34 h92
 cases hpx : ([117, 48, 48] : List UInt8).isPrefixOf (s.data.toList.drop p)
 ·
  have hv : Hid (escR (s.data.toList.drop p) = none) := by
   show _ = _
   cases hl : s.data.toList.drop p with
   | nil => rfl
   | cons c r => rw [hl] at hpx; exact escR_short (hnq c r hl) hpx
  rw [hpx] at CWD
  clear hnq hpx
  go_enter Tryz.func113, Tryz.ntmps113
  go_wp2_with fail
  refine C34.out.mono ?_
  rintro _ w1 ⟨rfl, n1, rfl⟩
  go_wp2_with fail
  refine (C92.out n1).mono ?_
  rintro _ w1 ⟨rfl, n2, rfl⟩
  rw [World.drewN_drewN]
  go_wp2_with fail
  refine (CWD.out (n1 + n2)).mono ?_
  rintro _ W2 ⟨rfl, hg2, hR2⟩
  have HR2 := Lib.hid (show RAt W2 g s p 3 from hR2)
  have HG2 := Lib.hid (grown_then (grown_dn (only_refl w (some g)) (n1 + n2)) hg2 (fun q e => .inl (by injection e with e; exact e.symm)))
  obtain ⟨c0, c1, f1, c2, f2⟩ := HR2.out.facts
  have CF := Lib.hid (fun n => fail_walk g s p 3 3 (W2.drewN n) (HR2.out.dn n))
  clear hg2 hR2
  go_wp2_with fail
  go_quiet (fail)
  go_wp2_with fail
  refine (CF.out nq).mono ?_
  rintro _ W3 ⟨rfl, hR3, hg3⟩
  have HR3 := Lib.hid (show RAt W3 g s p 3 from hR3)
  have HG3 := Lib.hid (grown_then (grown_dn HG2.out nq) hg3 (fun q e => .inl (by injection e with e; exact e.symm)))
  clear hR3 hg3
  go_wp2_with fail
  go_ret
  exact ⟨HG3.out, by rw [hv.out]; exact ⟨0, p, Nat.le_refl _, rfl, by decide, HR3.out⟩⟩
 obtain ⟨r3, hr3⟩ := List.isPrefixOf_iff_prefix.1 hpx
 rw [hpx] at CWD
 have hl3 := congrArg List.length hr3
 rw [HLEN.out] at hl3
 simp only [List.length_append, List.length_cons, List.length_nil] at hl3
 have hd3 : s.data.toList.drop (p + 3) = r3 := by rw [← List.drop_drop, ← hr3]; rfl
 have hesc : escR (s.data.toList.drop p) = escR (117 :: 48 :: 48 :: r3) := by rw [← hr3]; rfl
 obtain ⟨p3, hp3⟩ : ∃ p3, p + 3 = p3 := ⟨_, rfl⟩
 rw [hp3] at hd3
 have CWD3 : Hid (∀ n, Calls Tryz.prog 81 #[.pointer (some ⟨g, 0, none⟩), .string ⟨#[117, 48, 48]⟩] (w.drewN n) fun f w' => f = .returned (.tuple #[]) ∧ (w.drewN n).grownBy w' (some g) ∧ RAt w' g s p3 0) := fun n => (CWD.out n).mono fun f w' h => by
  obtain ⟨h1, h2, h3⟩ := h
  rw [← hp3]
  exact ⟨h1, h2, h3⟩
 have hps : p3 ≤ s.size := by omega
 have HLP : Hid (p ≤ p3) := by show _ ≤ _; omega
 have hsz3 : r3.length = s.size - p3 := by omega
 clear hnq hpx CWD hr3
 have w1 : IntKind.i64.wrap ((s.size : Int) - (p3 : Int)) = ((s.size - p3 : Nat) : Int) := by rw [IntKind.wrap_i64]; omega
 by_cases h2 : s.size - p3 < 2
 ·
  have hv : Hid (escR (s.data.toList.drop p) = none) := by show _ = _; rw [hesc]; exact escR_few (by omega)
  have d1 : decide (((s.size - p3 : Nat) : Int) < 2) = true := by simp; omega
  have d2 : decide (s.size - p3 < 2) = true := by simp; omega
  clear hesc hd3 hl3 hsz3 hp3
  go_enter Tryz.func113, Tryz.ntmps113
  go_wp2_with fail
  refine C34.out.mono ?_
  rintro _ w1 ⟨rfl, n1, rfl⟩
  go_wp2_with fail
  refine (C92.out n1).mono ?_
  rintro _ w1 ⟨rfl, n2, rfl⟩
  rw [World.drewN_drewN]
  go_wp2_with fail
  refine (CWD3.out (n1 + n2)).mono ?_
  rintro _ W2 ⟨rfl, hg2, hR2⟩
  have HR2 := Lib.hid hR2
  have HG2 := Lib.hid (grown_then (grown_dn (only_refl w (some g)) (n1 + n2)) hg2 (fun q e => .inl (by injection e with e; exact e.symm)))
  obtain ⟨c0, c1, f1, c2, f2⟩ := HR2.out.facts
  have CF := Lib.hid (fun n => fail_walk g s p3 0 3 (W2.drewN n) (HR2.out.dn n))
  clear hg2 hR2
  go_wp2_with fail
  go_quiet (fail)
  go_wp2_with fail
  refine (CF.out nq).mono ?_
  rintro _ W3 ⟨rfl, hR3, hg3⟩
  have HR3 := Lib.hid (show RAt W3 g s p3 3 from hR3)
  have HG3 := Lib.hid (grown_then (grown_dn HG2.out nq) hg3 (fun q e => .inl (by injection e with e; exact e.symm)))
  clear hR3 hg3
  go_wp2_with fail
  go_ret
  exact ⟨HG3.out, by rw [hv.out]; exact ⟨0, p3, HLP.out, rfl, by decide, HR3.out⟩⟩
 have hlt3 : p3 < s.size := by omega
 have hlt4 : p3 + 1 < s.size := by omega
 obtain ⟨a, ea, ha⟩ : ∃ b : Nat, (s[p3]'hlt3).toNat = b ∧ b < 256 := ⟨_, rfl, (s[p3]'hlt3).toNat_lt⟩
 obtain ⟨b, eb, hb⟩ : ∃ b : Nat, (s[p3 + 1]'hlt4).toNat = b ∧ b < 256 := ⟨_, rfl, (s[p3 + 1]'hlt4).toNat_lt⟩
 obtain ⟨p4, hp4⟩ : ∃ p4, p3 + 1 = p4 := ⟨_, rfl⟩
 have hr3 : r3 = UInt8.ofNat a :: UInt8.ofNat b :: s.data.toList.drop (p3 + 1 + 1) := by rw [← hd3, drop_cons hlt3 ea, drop_cons hlt4 eb]
 have i3 := fun W => run_index_at (P := Tryz.prog) 9 Tryz.underlying9 s p3 a hlt3 ea W
 have i4 := fun W => run_index_at (P := Tryz.prog) 9 Tryz.underlying9 s (p3 + 1) b hlt4 eb W
 rw [hp4] at i4 hlt4
 have w2 : IntKind.i64.wrap ((p3 : Int) + 1) = (p4 : Int) := by rw [IntKind.wrap_i64]; omega
 have d1 : decide (((s.size - p3 : Nat) : Int) < 2) = false := by simp; omega
 have d2 : decide (s.size - p3 < 2) = false := by simp; omega
 have CA := Lib.hid (fun W => small_walk a ha W)
 have CB := Lib.hid (fun W => small_walk b hb W)
 have hcs := esc_cases a b ha hb (s.data.toList.drop (p3 + 1 + 1))
 rw [← hr3, ← hesc] at hcs
 have HCS := Lib.hid hcs
 have hq2 : Hid ((p3 : Int) + 2 = ((p3 + 2 : Nat) : Int)) := by show _ = _; omega
 have HE5 : Hid (p + 5 = p3 + 2) := by show _ = _; omega
 have hle5 : p3 + 2 ≤ s.size := by omega
 obtain ⟨z1, hz1⟩ : ∃ z, smallI a = z := ⟨_, rfl⟩
 obtain ⟨z2, hz2⟩ : ∃ z, smallI b = z := ⟨_, rfl⟩
 rw [hz1] at CA HCS
 rw [hz2] at CB HCS
 clear hcs hesc hd3 hl3 hsz3 hp3 hr3 hz1 hz2 h2 ea eb
 rcases HCS.out with ⟨hbad, hv⟩ | ⟨x, y, e1, e2, hv⟩
 ·
  have HV := Lib.hid hv
  have hbb : decide (z1 < 0) = true ∨ (decide (z1 < 0) = false ∧ decide (1 < z1) = true) ∨ (decide (z1 < 0) = false ∧ decide (1 < z1) = false ∧ decide (z2 < 0) = true) := by
   by_cases k1 : z1 < 0
   ·
    left; simpa using k1
   ·
    by_cases k2 : 1 < z1
    ·
     right; left; exact ⟨by simpa using k1, by simpa using k2⟩
    ·
     right; right; exact ⟨by simpa using k1, by simpa using k2, by simp; omega⟩
  clear hbad hv HCS
  rcases hbb with k1 | ⟨k1, k2⟩ | ⟨k1, k2, k3⟩
  all_goals
   go_enter Tryz.func113, Tryz.ntmps113
   go_wp2_with fail
   refine C34.out.mono ?_
   rintro _ w1 ⟨rfl, n1, rfl⟩
   go_wp2_with fail
   refine (C92.out n1).mono ?_
   rintro _ w1 ⟨rfl, n2, rfl⟩
   rw [World.drewN_drewN]
   go_wp2_with fail
   refine (CWD3.out (n1 + n2)).mono ?_
   rintro _ W2 ⟨rfl, hg2, hR2⟩
   have HR2 := Lib.hid hR2
   have HG2 := Lib.hid (grown_then (grown_dn (only_refl w (some g)) (n1 + n2)) hg2 (fun q e => .inl (by injection e with e; exact e.symm)))
   obtain ⟨c0, c1, f1, c2, f2⟩ := HR2.out.facts
   clear hg2 hR2
   go_wp2_with fail
   go_quiet (fail)
   revert nq; intro m1
   go_wp2_with fail
   go_quiet ((go_at_call 138; first | (with_reducible refine (CA.out _).mono ?_; rintro e w9 ⟨rfl, rfl⟩; exact ⟨rfl, _, rfl⟩) | (with_reducible refine (CB.out _).mono ?_; rintro e w9 ⟨rfl, rfl⟩; exact ⟨rfl, _, rfl⟩)))
   go_wp2_with fail
   have hput := (HR2.out.dn (m1 + nq)).put (p3 + 2) hle5
   rw [← hq2.out] at hput
   have CF := Lib.hid (fail_walk g s (p3 + 2) 0 3 _ hput.1)
   have HGP := Lib.hid (grown_then (grown_dn HG2.out (m1 + nq)) hput.2 (fun q e => .inl (by injection e with e; exact e.symm)))
   clear hput
   refine CF.out.mono ?_
   rintro _ W3 ⟨rfl, hR3, hg3⟩
   have HR3 := Lib.hid (show RAt W3 g s (p3 + 2) 3 from hR3)
   have HG3 := Lib.hid (grown_then HGP.out hg3 (fun q e => .inl (by injection e with e; exact e.symm)))
   clear hR3 hg3
   go_wp2_with fail
   go_ret
   exact ⟨HG3.out, by rw [HV.out]; exact ⟨0, p3 + 2, by have := HLP.out; omega, rfl, by decide, HR3.out⟩⟩
 ·
  have HV := Lib.hid hv
  obtain ⟨x, hx⟩ := x
  obtain ⟨y, hy⟩ := y
  simp only at e1 e2 HV
  subst e1 e2
  have hr1 : Hid (((x * 16 + y : Nat) : Int) = ((UInt8.ofNat (x * 16 + y)).toNat : Int)) := by show _ = _; simp; omega
  have k1 : decide (((x : Nat) : Int) < 0) = false := by simp
  have k2 : decide ((1 : Int) < ((x : Nat) : Int)) = false := by simp; omega
  have k2' : decide (1 < x) = false := by simp; omega
  have k3 : decide (((y : Nat) : Int) < 0) = false := by simp
  have w3 : IntKind.u8.wrap ((x : Int) * 16 + (y : Int)) = ((x * 16 + y : Nat) : Int) := by rw [wrap_u8]; omega
  clear hv HCS
  go_enter Tryz.func113, Tryz.ntmps113
  go_wp2_with fail
  refine C34.out.mono ?_
  rintro _ w1 ⟨rfl, n1, rfl⟩
  go_wp2_with fail
  refine (C92.out n1).mono ?_
  rintro _ w1 ⟨rfl, n2, rfl⟩
  rw [World.drewN_drewN]
  go_wp2_with fail
  refine (CWD3.out (n1 + n2)).mono ?_
  rintro _ W2 ⟨rfl, hg2, hR2⟩
  have HR2 := Lib.hid hR2
  have HG2 := Lib.hid (grown_then (grown_dn (only_refl w (some g)) (n1 + n2)) hg2 (fun q e => .inl (by injection e with e; exact e.symm)))
  obtain ⟨c0, c1, f1, c2, f2⟩ := HR2.out.facts
  clear hg2 hR2
  go_wp2_with fail
  go_quiet (fail)
  revert nq; intro m1
  go_wp2_with fail
  go_quiet ((go_at_call 138; first | (with_reducible refine (CA.out _).mono ?_; rintro e w9 ⟨rfl, rfl⟩; exact ⟨rfl, _, rfl⟩) | (with_reducible refine (CB.out _).mono ?_; rintro e w9 ⟨rfl, rfl⟩; exact ⟨rfl, _, rfl⟩)))
  have hput := (HR2.out.dn (m1 + nq)).put (p3 + 2) hle5
  rw [← hq2.out] at hput
  have HPU := Lib.hid hput.1
  have HGP := Lib.hid (grown_then (grown_dn HG2.out (m1 + nq)) hput.2 (fun q e => .inl (by injection e with e; exact e.symm)))
  clear hput
  go_wp2_with fail
  go_ret
  exact ⟨HGP.out, by rw [HV.out]; exact ⟨by rw [← hr1.out]; rfl, by rw [HE5.out]; exact HPU.out⟩⟩
end Go.Proofs.YtieppmppdmcleaaGreatDoor
/- countersignref12's reader: escape, text. Condition: a text of at most 1000000 bytes. Printed by wip/tools/genOd.py. -/
namespace Go.Proofs.YtieppmppdmcleaaGreatDoor
open Go.RowKit Go.Maps
def TxR (g : Nat) (s : ByteArray) (r : Option (List UInt8 × List UInt8)) (w : World) (f : Ending) (w' : World) : Prop :=
 w.grownBy w' (some g) ∧ match r with
  | some (t, r2) => ∃ q, f = .returned (.string ⟨t.toArray⟩) ∧ RAt w' g s q 0 ∧ s.data.toList.drop q = r2
  | none => ∃ (t : ByteArray) (q : Nat), f = .returned (.string t) ∧ RAt w' g s q 3
def quoteR (l : List UInt8) : Option (List UInt8 × List UInt8) := if atB (skipB l) 34 then textR (skipB l).tail else none
theorem txR_none {g q : Nat} {s t : ByteArray} {r : Option (List UInt8 × List UInt8)} {w w' : World} {f : Ending} (hr : r = none) (hf : f = .returned (.string t)) (hg : w.grownBy w' (some g)) (h : RAt w' g s q 3) : TxR g s r w f w' := by
 subst hr
 exact ⟨hg, t, q, hf, h⟩
theorem own_putR {w : World} {B : Nat} {e : TypeId} {size n : Nat} {v : Value} {xs : List Value} (h : w.ownsRow B e size v n xs) {w' : World} {g : Nat} (hg : w.grownBy w' (some g)) (hb : g < B) : w'.ownsRow B e size v n xs := own_grown h hg (fun q e => by injection e with e; omega)
theorem str_own {w : World} {B n : Nat} {v : Value} {l : List UInt8} (h : w.ownsRow B 5 1 v n (Lib.byteCells l)) : (convert 31 9 v).run Tryz.prog w = .ok (.string ⟨l.toArray⟩) w := by
 obtain ⟨A', c', rfl, _, hr⟩ := own_reads h (Nat.le_refl _)
 exact str_string hr
def TxS (g : Nat) (s : ByteArray) (l : List UInt8) (w : World) (q e : Nat) (acc : List UInt8) (bv : Value) (W : World) : Prop :=
 RAt W g s q e ∧ W.ownsRow w.heap.size 5 1 bv acc.length (Lib.byteCells acc) ∧ w.grownBy W (some g) ∧ acc.length ≤ q ∧ ((e = 0 ∧ ∃ f, s.size - q + 1 ≤ f ∧ quoteR l = strR f acc (s.data.toList.drop q)) ∨ (e = 3 ∧ quoteR l = none))
theorem rtext0_walk (g : Nat) (s : ByteArray) (p : Nat) (w : World) (h : RAt w g s p 0) :
  Calls Tryz.prog 82 #[.pointer (some ⟨g, 0, none⟩)] w (TxR g s (quoteR (s.data.toList.drop p)) w) := by
 have hsm := h.2.2
 have hgl := h.lt
 obtain ⟨i0, hi, hz0, hz1, hz2⟩ := infoS4 info_u8
 have hlen : ∀ k, (s.data.toList.drop k).length = s.size - k := fun k => by simp
 have HLEN := Lib.hid hlen
 have cw := Lib.hid (want_walk g s p 34 w h)
 clear h hlen
 go_enter Tryz.func82, Tryz.ntmps82
 go_wp2_with fail
 refine cw.out.mono ?_
 rintro _ w1 ⟨q1, rfl, hg1, hR1, hd1⟩
 have HS : Hid (∃ q e acc, TxS g s (s.data.toList.drop p) w q e acc (.slice none 0 0) w1) := by
  show ∃ q e acc, _
  cases hb : atB (skipB (s.data.toList.drop p)) 34
  ·
   rw [hb] at hR1
   exact ⟨q1, 3, [], hR1, World.ownsRow_nil _ _ _ _, hg1, by simp, .inr ⟨rfl, by rw [quoteR, hb]; rfl⟩⟩
  ·
   rw [hb] at hR1
   refine ⟨q1, 0, [], hR1, World.ownsRow_nil _ _ _ _, hg1, by simp, .inl ⟨rfl, s.size - q1 + 1, Nat.le_refl _, ?_⟩⟩
   rw [quoteR, hb, if_pos rfl, textR, ← hd1 hb, HLEN.out]
 clear hg1 hR1 hd1 cw
 go_wp2_with fail
 go_loopw [3] (fun ov wr => ∃ q e acc, Hid (TxS g s (s.data.toList.drop p) w q e acc ov wr)) (fun _ wr => match wr.cell? ⟨g, 2, none⟩, wr.cell? ⟨g, 1, none⟩ with | some (.int _ e), some (.int _ n) => if e = 0 then 1 + s.size - n.toNat else 0 | _, _ => 0)
 case atStart =>
  obtain ⟨q, e, acc, h⟩ := HS.out
  exact ⟨q, e, acc, h⟩
 case round =>
  clear HS
  obtain ⟨q, e, acc, HT⟩ := hrel
  obtain ⟨hP, hown, hg, hacc, hc⟩ := HT.out
  have hq := hP.2.1
  obtain ⟨c0, c1, f1, c2, f2⟩ := hP.facts
  have HP := Lib.hid hP
  have HOW := Lib.hid hown
  have HG := Lib.hid hg
  clear hP hown hg HT
  rcases hc with ⟨rfl, f, hf, hs⟩ | ⟨rfl, hn⟩
  case inr =>
   have HN := Lib.hid hn
   clear hn
   obtain ⟨A, cc, eA, hcc, hrd⟩ := own_reads HOW.out (Nat.le_refl _)
   subst eA
   have hcs := str_string (c := cc) hrd
   have CV := Lib.hid (rvalid_walk ⟨acc.toArray⟩ acc (by simp) wr (by rw [size_mks]; omega))
   clear hrd
   have HOB := HOW
   go_wp2_with fail
   refine CV.out.mono ?_
   rintro _ W5 ⟨rfl, hb5⟩
   have HP5 := Lib.hid (HP.out.below hb5)
   have HG5 := Lib.hid (grown_below2 HG.out hb5)
   have HO5 := Lib.hid (ownsRow_below HOB.out hb5)
   have hcs5 := str_own HO5.out
   clear hb5 hcs HOB
   cases hval : validL acc
   ·
    clear hval
    have CF5 := Lib.hid (fail_walk g s q 3 3 W5 HP5.out)
    go_wp2_with fail
    refine CF5.out.mono ?_
    rintro _ W6 ⟨rfl, hR6, hg6⟩
    have hcs6 := str_own (own_putR HO5.out hg6 hgl)
    have HR6 := Lib.hid (show RAt W6 g s q 3 from hR6)
    have HG6 := Lib.hid (grown_then HG5.out hg6 (fun q e => .inl (by injection e with e; exact e.symm)))
    clear hR6 hg6 hcs5
    go_wp2_with fail
    go_ret
    exact txR_none HN.out rfl HG6.out HR6.out
   ·
    clear hval
    go_wp2_with fail
    go_ret
    exact txR_none HN.out rfl HG5.out HP5.out
  have HSR := Lib.hid hs
  clear hs
  by_cases hlt : q < s.size
  case neg =>
   have g1 : decide ((s.size : Int) ≤ (q : Int)) = true := by simp; omega
   have g2 : decide (s.size ≤ q) = true := by simp; omega
   have HN : Hid (quoteR (s.data.toList.drop p) = none) := by
    show _ = _
    rw [HSR.out, drop_end hlt]
    cases f <;> rfl
   have CF := Lib.hid (fun n => fail_walk g s q 0 3 (wr.drewN n) (HP.out.dn n))
   go_wp2_with fail
   go_quiet (fail)
   go_wp2_with fail
   refine (CF.out nq).mono ?_
   rintro _ W2 ⟨rfl, hR, hg2⟩
   have HP2 := Lib.hid (show RAt W2 g s q 3 from hR)
   have HOW2 := Lib.hid (own_putR (show (wr.drewN nq).ownsRow _ _ _ _ _ _ from HOW.out) hg2 hgl)
   have HG2 := Lib.hid (grown_then (grown_dn HG.out nq) hg2 (fun q e => .inl (by injection e with e; exact e.symm)))
   clear hR hg2 HP HOW HG CF c0 c1 f1 c2 f2
   obtain ⟨A, cc, eA, hcc, hrd⟩ := own_reads HOW2.out (Nat.le_refl _)
   subst eA
   have hcs := str_string (c := cc) hrd
   have CV := Lib.hid (rvalid_walk ⟨acc.toArray⟩ acc (by simp) W2 (by rw [size_mks]; omega))
   clear hrd
   have HOB := HOW2
   go_wp2_with fail
   refine CV.out.mono ?_
   rintro _ W5 ⟨rfl, hb5⟩
   have HP5 := Lib.hid (HP2.out.below hb5)
   have HG5 := Lib.hid (grown_below2 HG2.out hb5)
   have HO5 := Lib.hid (ownsRow_below HOB.out hb5)
   have hcs5 := str_own HO5.out
   clear hb5 hcs HOB
   cases hval : validL acc
   ·
    clear hval
    have CF5 := Lib.hid (fail_walk g s q 3 3 W5 HP5.out)
    go_wp2_with fail
    refine CF5.out.mono ?_
    rintro _ W6 ⟨rfl, hR6, hg6⟩
    have hcs6 := str_own (own_putR HO5.out hg6 hgl)
    have HR6 := Lib.hid (show RAt W6 g s q 3 from hR6)
    have HG6 := Lib.hid (grown_then HG5.out hg6 (fun q e => .inl (by injection e with e; exact e.symm)))
    clear hR6 hg6 hcs5
    go_wp2_with fail
    go_ret
    exact txR_none HN.out rfl HG6.out HR6.out
   ·
    clear hval
    go_wp2_with fail
    go_ret
    exact txR_none HN.out rfl HG5.out HP5.out
  obtain ⟨b, eb, hb2⟩ : ∃ b : Nat, (s[q]'hlt).toNat = b ∧ b < 256 := ⟨_, rfl, (s[q]'hlt).toNat_lt⟩
  obtain ⟨f, rfl⟩ : ∃ f', f = f' + 1 := ⟨f - 1, by omega⟩
  have hd := drop_cons hlt eb
  have i1 := fun W => run_index_at (P := Tryz.prog) 9 Tryz.underlying9 s q b hlt eb W
  have g1 : decide ((s.size : Int) ≤ (q : Int)) = false := by simp; omega
  have g2 : decide (s.size ≤ q) = false := by simp; omega
  by_cases h32 : b < 32
  case pos =>
   have d2 : decide ((b : Int) < 32) = true := by simp; omega
   have d2' : decide (b < 32) = true := by simp; omega
   have HN : Hid (quoteR (s.data.toList.drop p) = none) := by
    show _ = _
    rw [HSR.out, hd, strR, if_neg (by simp [← UInt8.toNat_inj]; omega), if_pos (by rw [UInt8.lt_iff_toNat_lt]; simp; omega)]
   have CF := Lib.hid (fun n => fail_walk g s q 0 3 (wr.drewN n) (HP.out.dn n))
   clear hd h32
   go_wp2_with fail
   go_quiet (fail)
   go_wp2_with fail
   refine (CF.out nq).mono ?_
   rintro _ W2 ⟨rfl, hR, hg2⟩
   have HP2 := Lib.hid (show RAt W2 g s q 3 from hR)
   have HOW2 := Lib.hid (own_putR (show (wr.drewN nq).ownsRow _ _ _ _ _ _ from HOW.out) hg2 hgl)
   have HG2 := Lib.hid (grown_then (grown_dn HG.out nq) hg2 (fun q e => .inl (by injection e with e; exact e.symm)))
   clear hR hg2 HP HOW HG CF c0 c1 f1 c2 f2
   obtain ⟨A, cc, eA, hcc, hrd⟩ := own_reads HOW2.out (Nat.le_refl _)
   subst eA
   have hcs := str_string (c := cc) hrd
   have CV := Lib.hid (rvalid_walk ⟨acc.toArray⟩ acc (by simp) W2 (by rw [size_mks]; omega))
   clear hrd
   have HOB := HOW2
   go_wp2_with fail
   refine CV.out.mono ?_
   rintro _ W5 ⟨rfl, hb5⟩
   have HP5 := Lib.hid (HP2.out.below hb5)
   have HG5 := Lib.hid (grown_below2 HG2.out hb5)
   have HO5 := Lib.hid (ownsRow_below HOB.out hb5)
   have hcs5 := str_own HO5.out
   clear hb5 hcs HOB
   cases hval : validL acc
   ·
    clear hval
    have CF5 := Lib.hid (fail_walk g s q 3 3 W5 HP5.out)
    go_wp2_with fail
    refine CF5.out.mono ?_
    rintro _ W6 ⟨rfl, hR6, hg6⟩
    have hcs6 := str_own (own_putR HO5.out hg6 hgl)
    have HR6 := Lib.hid (show RAt W6 g s q 3 from hR6)
    have HG6 := Lib.hid (grown_then HG5.out hg6 (fun q e => .inl (by injection e with e; exact e.symm)))
    clear hR6 hg6 hcs5
    go_wp2_with fail
    go_ret
    exact txR_none HN.out rfl HG6.out HR6.out
   ·
    clear hval
    go_wp2_with fail
    go_ret
    exact txR_none HN.out rfl HG5.out HP5.out
  have d2 : decide ((b : Int) < 32) = false := by simp; omega
  have d2' : decide (b < 32) = false := by simp; omega
  have hnl : ¬ UInt8.ofNat b < 32 := by rw [UInt8.lt_iff_toNat_lt]; simp; omega
  have hq1 : Hid ((q : Int) + 1 = ((q + 1 : Nat) : Int)) := by show _ = _; omega
  have HPH : Hid (∀ n, RAt ((wr.drewN n).setCell ⟨g, 1, none⟩ (.int .i64 ((q : Int) + 1))) g s (q + 1) 0) := fun n => by rw [hq1.out]; exact ((HP.out.dn n).put (q + 1) (by omega)).1
  have HGH : Hid (∀ n, w.grownBy ((wr.drewN n).setCell ⟨g, 1, none⟩ (.int .i64 ((q : Int) + 1))) (some g)) := fun n => by rw [hq1.out]; exact grown_then (grown_dn HG.out n) ((HP.out.dn n).put (q + 1) (by omega)).2 (fun q e => by injection e with e; exact .inl e.symm)
  have HOH : Hid (∀ n, ((wr.drewN n).setCell ⟨g, 1, none⟩ (.int .i64 ((q : Int) + 1))).ownsRow w.heap.size 5 1 u3 acc.length (Lib.byteCells acc)) := fun n => own_put (show (wr.drewN n).ownsRow _ _ _ _ _ _ from HOW.out) hgl _
  clear HP HG HOW
  by_cases h34 : b = 34
  case pos =>
   subst h34
   have hv0 : quoteR (s.data.toList.drop p) = if validL acc then some (acc, s.data.toList.drop (q + 1)) else none := by
    rw [HSR.out, hd, strR, if_pos (by decide)]
   have HV0 := Lib.hid hv0
   have hcsN : ∀ n, (convert 31 9 u3).run Tryz.prog ((wr.drewN n).setCell ⟨g, 1, none⟩ (.int .i64 ((q : Int) + 1))) = .ok (.string ⟨acc.toArray⟩) ((wr.drewN n).setCell ⟨g, 1, none⟩ (.int .i64 ((q : Int) + 1))) := fun n => str_own (HOH.out n)
   clear hv0 hd HSR hnl h32
   go_wp2_with fail
   go_quiet (fail)
   revert nq; intro m1
   go_wp2_with fail
   go_quiet (fail)
   go_wp2_with fail
   have hP2 := HPH.out (m1 + nq)
   have hG2 := HGH.out (m1 + nq)
   have hO2 := HOH.out (m1 + nq)
   generalize (wr.drewN (m1 + nq)).setCell ⟨g, 1, none⟩ (.int .i64 ((q : Int) + 1)) = W2 at hP2 hG2 hO2 ⊢
   have HP2 := Lib.hid hP2
   have HG2 := Lib.hid hG2
   have HO2 := Lib.hid hO2
   clear hP2 hG2 hO2 HPH HGH HOH c0 c1 f1 c2 f2 hcsN
   have CV := Lib.hid (rvalid_walk ⟨acc.toArray⟩ acc (by simp) W2 (by rw [size_mks]; omega))
   have HOB := HO2
   refine CV.out.mono ?_
   rintro _ W5 ⟨rfl, hb5⟩
   have HP5 := Lib.hid (HP2.out.below hb5)
   have HG5 := Lib.hid (grown_below2 HG2.out hb5)
   have HO5 := Lib.hid (ownsRow_below HOB.out hb5)
   have hcs5 := str_own HO5.out
   clear hb5 HOB
   cases hval : validL acc
   ·
    have HN : Hid (quoteR (s.data.toList.drop p) = none) := by show _ = _; rw [HV0.out, hval]; rfl
    clear hval
    have CF5 := Lib.hid (fail_walk g s (q + 1) 0 3 W5 HP5.out)
    go_wp2_with fail
    refine CF5.out.mono ?_
    rintro _ W6 ⟨rfl, hR6, hg6⟩
    have hcs6 := str_own (own_putR HO5.out hg6 hgl)
    have HR6 := Lib.hid (show RAt W6 g s (q + 1) 3 from hR6)
    have HG6 := Lib.hid (grown_then HG5.out hg6 (fun q e => .inl (by injection e with e; exact e.symm)))
    clear hR6 hg6 hcs5
    go_wp2_with fail
    go_ret
    exact txR_none HN.out rfl HG6.out HR6.out
   ·
    have HN : Hid (quoteR (s.data.toList.drop p) = some (acc, s.data.toList.drop (q + 1))) := by show _ = _; rw [HV0.out, hval]; rfl
    clear hval
    go_wp2_with fail
    go_ret
    exact ⟨HG5.out, by rw [HN.out]; exact ⟨q + 1, rfl, HP5.out, rfl⟩⟩
  have d34 : ((b : Int) == 34) = false := by simp; omega
  have hne : ¬ UInt8.ofNat b = 34 := by simp [← UInt8.toNat_inj]; omega
  by_cases h92 : b = 92
  case pos =>
   subst h92
   have hv0 : quoteR (s.data.toList.drop p) = match escR (s.data.toList.drop (q + 1)) with
     | none => none
     | some (b, n) => strR f (acc ++ [b]) ((s.data.toList.drop (q + 1)).drop n) := by
    rw [HSR.out, hd, strR, if_neg (by decide), if_neg (by decide), if_pos (by decide)]
    rfl
   have HV0 := Lib.hid hv0
   clear hv0 hd HSR hnl h32 hne d34
   go_wp2_with fail
   go_quiet (fail)
   revert nq; intro m1
   go_wp2_with fail
   go_quiet (fail)
   go_wp2_with fail
   have hP2 := HPH.out (m1 + nq)
   have hG2 := HGH.out (m1 + nq)
   have hO2 := HOH.out (m1 + nq)
   generalize (wr.drewN (m1 + nq)).setCell ⟨g, 1, none⟩ (.int .i64 ((q : Int) + 1)) = W2 at hP2 hG2 hO2 ⊢
   have CE := Lib.hid (escape_walk g s (q + 1) W2 hP2)
   have HG2 := Lib.hid hG2
   have HO2 := Lib.hid hO2
   clear hP2 hG2 hO2 HPH HGH HOH f1 f2
   refine CE.out.mono ?_
   rintro fe W3 ⟨hg3, hm⟩
   have HG3 := Lib.hid (grown_then HG2.out hg3 (fun q e => .inl (by injection e with e; exact e.symm)))
   have HO3 := Lib.hid (own_putR HO2.out hg3 hgl)
   have hls3 := HG3.out.size
   cases he : escR (s.data.toList.drop (q + 1)) with
   | none =>
    rw [he] at hm
    obtain ⟨x, q', hle, rfl, hx, hR⟩ := hm
    have HN : Hid (quoteR (s.data.toList.drop p) = none) := by show _ = _; rw [HV0.out, he]
    obtain ⟨eb, heb⟩ : ∃ eb : UInt8, eb.toNat = x := ⟨UInt8.ofNat x, by simp; omega⟩
    have HEB := Lib.hid heb
    have HR := Lib.hid hR
    clear he hg3 hR heb HV0 CE HG2 HO2
    have hrd5 := reads_row W3 5 [.int .u8 (x : Int)]
    go_wp2_with (at_builtin; refine wpList_append_any (W3.alloc (.cells #[.int .u8 (x : Int)] 5)) rfl (.tmp 58) (.tmp 60) 31 rfl w.heap.size 5 i0 (.int .u8 0) 1 1 Tryz.underlying31 hi hz0 hz1 hz2 rfl (by decide) u3 acc.length (Lib.byteCells acc) rfl (HO3.out.alloc _) (W3.heap.size + 1) _ 1 1 _ rfl hrd5 (by simp [Value.oneCell']) (by unfold maxLen; omega) (by omega) (by simp; omega) ?_; intro v' w2 hown2 hg2 _)
    have hne5 : ∀ q', u3.ownBlock = some q' → w.heap.size ≤ q' := fun q' e => ((HO3.out).lt q' e).1
    have hba := (Below.refl W3.heap.size W3).alloc (Nat.le_refl _) (.cells #[.int .u8 (x : Int)] 5)
    have HP6 := Lib.hid ((HR.out.below hba).grown hg2 (fun e => by have := hne5 g e.symm; omega))
    have HG6 := Lib.hid (grown_then (grown_below2 HG3.out hba) hg2 (fun q' e => .inr (hne5 q' e)))
    have HO6 := Lib.hid (own_next (o' := acc ++ [eb]) (news := [eb]) hown2 (by simp [Lib.byteCells, HEB.out]) rfl rfl)
    have hc6 := HP6.out.facts
    refine ⟨⟨q', 3, acc ++ [eb], ⟨HP6.out, HO6.out, HG6.out, by simp; omega, .inr ⟨rfl, HN.out⟩⟩⟩, ?_⟩
    rw [hc6.2.2.2.1, hc6.2.1, c2, c1]
    simp
    omega
   | some bn =>
    obtain ⟨eb, n⟩ := bn
    rw [he] at hm
    obtain ⟨rfl, hR⟩ := hm
    have hnl := escR_le _ _ _ he
    have HSN : Hid (quoteR (s.data.toList.drop p) = strR f (acc ++ [eb]) (s.data.toList.drop (q + 1 + n))) := by
     show _ = _
     rw [HV0.out, he]
     simp only [List.drop_drop]
    obtain ⟨x, hx⟩ : ∃ x, eb.toNat = x := ⟨_, rfl⟩
    rw [hx]
    have HEB := Lib.hid hx
    have HR := Lib.hid hR
    clear he hg3 hR hx HV0 CE HG2 HO2
    have hrd5 := reads_row W3 5 [.int .u8 (x : Int)]
    go_wp2_with (at_builtin; refine wpList_append_any (W3.alloc (.cells #[.int .u8 (x : Int)] 5)) rfl (.tmp 58) (.tmp 60) 31 rfl w.heap.size 5 i0 (.int .u8 0) 1 1 Tryz.underlying31 hi hz0 hz1 hz2 rfl (by decide) u3 acc.length (Lib.byteCells acc) rfl (HO3.out.alloc _) (W3.heap.size + 1) _ 1 1 _ rfl hrd5 (by simp [Value.oneCell']) (by unfold maxLen; omega) (by omega) (by simp; omega) ?_; intro v' w2 hown2 hg2 _)
    have hne5 : ∀ q', u3.ownBlock = some q' → w.heap.size ≤ q' := fun q' e => ((HO3.out).lt q' e).1
    have hba := (Below.refl W3.heap.size W3).alloc (Nat.le_refl _) (.cells #[.int .u8 (x : Int)] 5)
    have HP6 := Lib.hid ((HR.out.below hba).grown hg2 (fun e => by have := hne5 g e.symm; omega))
    have HG6 := Lib.hid (grown_then (grown_below2 HG3.out hba) hg2 (fun q' e => .inr (hne5 q' e)))
    have HO6 := Lib.hid (own_next (o' := acc ++ [eb]) (news := [eb]) hown2 (by simp [Lib.byteCells, HEB.out]) rfl rfl)
    have hc6 := HP6.out.facts
    refine ⟨⟨q + 1 + n, 0, acc ++ [eb], ⟨HP6.out, HO6.out, HG6.out, by simp; omega, .inl ⟨rfl, f, by omega, HSN.out⟩⟩⟩, ?_⟩
    rw [hc6.2.2.2.1, hc6.2.1, c2, c1]
    simp
    omega
  case neg =>
   have d92 : ((b : Int) == 92) = false := by simp; omega
   have hn92 : ¬ UInt8.ofNat b = 92 := by simp [← UInt8.toNat_inj]; omega
   have HSN : Hid (quoteR (s.data.toList.drop p) = strR f (acc ++ [UInt8.ofNat b]) (s.data.toList.drop (q + 1))) := by
    show _ = _
    rw [HSR.out, hd, strR, if_neg hne, if_neg hnl, if_neg hn92]
   obtain ⟨eb, heb⟩ : ∃ eb : UInt8, UInt8.ofNat b = eb := ⟨_, rfl⟩
   have HEB : Hid (eb.toNat = b) := by show _ = _; rw [← heb]; simp; omega
   rw [heb] at HSN
   clear hd HSR hnl h32 hne hn92 heb h34 h92
   go_wp2_with fail
   go_quiet (fail)
   revert nq; intro m1
   go_wp2_with fail
   go_quiet (fail)
   have hP2 := HPH.out (m1 + nq)
   have hG2 := HGH.out (m1 + nq)
   have hO2 := HOH.out (m1 + nq)
   obtain ⟨W3, hW3⟩ : ∃ W3, (wr.drewN (m1 + nq)).setCell ⟨g, 1, none⟩ (.int .i64 ((q : Int) + 1)) = W3 := ⟨_, rfl⟩
   rw [hW3] at hP2 hG2 hO2
   have HR := Lib.hid hP2
   have HG3 := Lib.hid hG2
   have HO3 := Lib.hid hO2
   have hls3 := HG3.out.size
   clear hP2 hG2 hO2 HPH HGH HOH
   have hrd5 := reads_row W3 5 [.int .u8 (b : Int)]
   go_wp2_with (at_builtin; refine wpList_append_any (W3.alloc (.cells #[.int .u8 (b : Int)] 5)) rfl (.tmp 58) (.tmp 60) 31 rfl w.heap.size 5 i0 (.int .u8 0) 1 1 Tryz.underlying31 hi hz0 hz1 hz2 rfl (by decide) u3 acc.length (Lib.byteCells acc) rfl (HO3.out.alloc _) (W3.heap.size + 1) _ 1 1 _ rfl hrd5 (by simp [Value.oneCell']) (by unfold maxLen; omega) (by omega) (by simp; omega) ?_; intro v' w2 hown2 hg2 _)
   have hne5 : ∀ q', u3.ownBlock = some q' → w.heap.size ≤ q' := fun q' e => ((HO3.out).lt q' e).1
   have hba := (Below.refl W3.heap.size W3).alloc (Nat.le_refl _) (.cells #[.int .u8 (b : Int)] 5)
   have HP6 := Lib.hid ((HR.out.below hba).grown hg2 (fun e => by have := hne5 g e.symm; omega))
   have HG6 := Lib.hid (grown_then (grown_below2 HG3.out hba) hg2 (fun q' e => .inr (hne5 q' e)))
   have HO6 := Lib.hid (own_next (o' := acc ++ [eb]) (news := [eb]) hown2 (by simp [Lib.byteCells, HEB.out]) rfl rfl)
   have hc6 := HP6.out.facts
   refine ⟨⟨q + 1, 0, acc ++ [eb], ⟨HP6.out, HO6.out, HG6.out, by simp; omega, .inl ⟨rfl, f, by omega, HSN.out⟩⟩⟩, ?_⟩
   rw [hc6.2.2.2.1, hc6.2.1, c2, c1]
   simp
   omega
end Go.Proofs.YtieppmppdmcleaaGreatDoor

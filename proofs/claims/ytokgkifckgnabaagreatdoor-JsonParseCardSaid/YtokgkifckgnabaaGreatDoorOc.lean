/- countersignref12's reader: word, escape. Condition: a text of at most 1000000 bytes. -/
import Derived.Test.YtokgkifckgnabaaGreatDoorM4
set_option linter.unusedVariables false
set_option linter.unusedSimpArgs false
set_option maxRecDepth 20000
namespace Go.Proofs.YtokgkifckgnabaaGreatDoor
open Go.RowKit Go.Maps
def TakeR (g : Nat) (s : ByteArray) (p n : Nat) (ok : Bool) (w : World) (f : Ending) (w' : World) : Prop := f = .returned (.tuple #[]) ∧ w.grownBy w' (some g) ∧ RAt w' g s (if ok then p + n else p) (if ok then 0 else 3)
set_option maxHeartbeats 4000000 in
theorem word_walk (g : Nat) (s : ByteArray) (p : Nat) (ws : ByteArray) (wl : List UInt8) (hw : ws.data.toList = wl) (hws : ws.size ≤ 10) (w : World) (h : RAt w g s p 0) :
    Calls Tryz.prog 51 #[.pointer (some ⟨g, 0, none⟩), .string ws] w (TakeR g s p wl.length (wl.isPrefixOf (s.data.toList.drop p)) w) := by
  obtain ⟨c0, c1, f1, -, -⟩ := h.facts
  have hp := h.2.1
  have hsm := h.2.2
  have hwl : wl.length = ws.size := by rw [← hw]; simp
  have hsl : s.data.toList.length = s.size := by simp
  have H := Lib.hid h
  clear h
  have w1 : IntKind.i64.wrap ((s.size : Int) - (p : Int)) = ((s.size - p : Nat) : Int) := by rw [IntKind.wrap_i64]; omega
  have w2 : IntKind.i64.wrap ((p : Int) + (ws.size : Int)) = ((p + ws.size : Nat) : Int) := by rw [IntKind.wrap_i64]; omega
  by_cases hlt : s.size - p < ws.size
  · have hv : Hid (wl.isPrefixOf (s.data.toList.drop p) = false) := by
      show _ = _
      cases hx : wl.isPrefixOf (s.data.toList.drop p) with
      | false => rfl
      | true =>
        have := (List.isPrefixOf_iff_prefix.1 hx).length_le
        rw [List.length_drop] at this
        omega
    have d1 : decide (((s.size - p : Nat) : Int) < (ws.size : Int)) = true := by simp; omega
    have d2 : decide (s.size - p < ws.size) = true := by simp; omega
    have cf := fun n => fail_walk g s p 0 3 (w.drewN n) (H.out.dn n)
    have CF := Lib.hid cf
    clear cf hwl hsl hw
    go_enter Tryz.func51, Tryz.ntmps51
    go_wp2_with fail
    go_quiet (fail)
    go_wp2_with fail
    refine (CF.out nq).mono ?_
    rintro _ w3 ⟨rfl, hR, hg3⟩
    go_wp2_with fail
    refine bodyPost_end (results_none rfl _ _ _) rfl ?_
    exact ⟨rfl, grown_then (grown_dn (only_refl w (some g)) nq) hg3 (fun q e => .inl (by injection e with e; exact e.symm)), by rw [hv.out]; exact hR⟩
  · have d1 : decide (((s.size - p : Nat) : Int) < (ws.size : Int)) = false := by simp; omega
    have d2 : decide (s.size - p < ws.size) = false := by simp; omega
    have hle : p + ws.size ≤ s.size := by omega
    have hleI : ((p + ws.size : Nat) : Int) ≤ (s.size : Int) := by omega
    have hex : (s.extract p (p + ws.size)).data.toList = (s.data.toList.drop p).take ws.size := by rw [extract_list, Nat.add_sub_cancel_left]
    have hcmp : ((s.extract p (p + ws.size)).toList == ws.toList) = wl.isPrefixOf (s.data.toList.drop p) := by
      rw [ByteArray.toList_eq, ByteArray.toList_eq, hex, hw, Bool.eq_iff_iff, beq_iff_eq, List.isPrefixOf_iff_prefix, ← hwl, List.prefix_iff_eq_take]
      exact eq_comm
    cases hb : wl.isPrefixOf (s.data.toList.drop p)
    · rw [hb] at hcmp
      have hcmp2 : (!((s.extract p (p + ws.size)).toList == ws.toList)) = true := by rw [hcmp]; rfl
      have cf := fun n => fail_walk g s p 0 3 (w.drewN n) (H.out.dn n)
      have CF := Lib.hid cf
      have HB := Lib.hid hb
      clear cf hwl hsl hw hex hb
      go_enter Tryz.func51, Tryz.ntmps51
      go_wp2_with fail
      go_quiet (fail)
      go_wp2_with fail
      refine (CF.out nq).mono ?_
      rintro _ w3 ⟨rfl, hR, hg3⟩
      go_wp2_with fail
      refine bodyPost_end (results_none rfl _ _ _) rfl ?_
      exact ⟨rfl, grown_then (grown_dn (only_refl w (some g)) nq) hg3 (fun q e => .inl (by injection e with e; exact e.symm)), hR⟩
    · rw [hb] at hcmp
      have hcmp2 : (!((s.extract p (p + ws.size)).toList == ws.toList)) = false := by rw [hcmp]; rfl
      have HPU := Lib.hid (fun n => (H.out.dn n).put (p + ws.size) hle)
      have HWL := Lib.hid hwl
      clear hwl hsl hw hex hb
      go_enter Tryz.func51, Tryz.ntmps51
      go_wp2_with fail
      go_quiet (fail)
      go_wp2_with fail
      refine bodyPost_end (results_none rfl _ _ _) rfl ?_
      exact ⟨rfl, grown_then (grown_dn (only_refl w (some g)) nq) (HPU.out nq).2 (fun q e => .inl (by injection e with e; exact e.symm)), by rw [HWL.out]; exact (HPU.out nq).1⟩
def EscW (g : Nat) (s : ByteArray) (p : Nat) (r : Option (UInt8 × Nat)) (w : World) (f : Ending) (w' : World) : Prop :=
  w.grownBy w' (some g) ∧ match r with
    | some (b, n) => f = .returned (.int .u8 (b.toNat : Int)) ∧ RAt w' g s (p + n) 0
    | none => ∃ (x q : Nat), p ≤ q ∧ f = .returned (.int .u8 (x : Int)) ∧ x < 256 ∧ RAt w' g s q 3
theorem escR_short {c : UInt8} {r : List UInt8} (hq : ¬ (c = 34 ∨ c = 92)) (h : ([117, 48, 48] : List UInt8).isPrefixOf (c :: r) = false) : escR (c :: r) = none := by
  rw [escR, if_neg hq]
  split
  · rename_i he
    rw [he] at h
    simp at h
  · rfl
theorem escR_few {r : List UInt8} (h : r.length < 2) : escR (117 :: 48 :: 48 :: r) = none := by
  rw [escR, if_neg (by decide)]
  split
  · rename_i he
    injection he with _ he
    injection he with _ he
    injection he with _ he
    subst he
    simp at h
    omega
  · rfl
theorem esc_cases (a b : Nat) (ha : a < 256) (hb : b < 256) (r : List UInt8) :
    ((smallI a < 0 ∨ 1 < smallI a ∨ smallI b < 0) ∧ escR (117 :: 48 :: 48 :: UInt8.ofNat a :: UInt8.ofNat b :: r) = none) ∨
    (∃ (x : Fin 2) (y : Fin 16), smallI a = (x.val : Int) ∧ smallI b = (y.val : Int) ∧ escR (117 :: 48 :: 48 :: UInt8.ofNat a :: UInt8.ofNat b :: r) = some (UInt8.ofNat (x.val * 16 + y.val), 5)) := by
  rw [escR_hex]
  unfold smallI
  cases h3 : smallN (UInt8.ofNat a) with
  | none => exact .inl ⟨.inl (by simp), rfl⟩
  | some x =>
    cases h4 : smallN (UInt8.ofNat b) with
    | none => exact .inl ⟨.inr (.inr (by simp)), rfl⟩
    | some y =>
      have hy := smallN_lt b hb y h4
      by_cases hx : x ≤ 1
      · right
        exact ⟨⟨x, by omega⟩, ⟨y, hy⟩, rfl, rfl, by simp only; rw [if_pos hx]⟩
      · left
        exact ⟨.inr (.inl (by simp; omega)), by simp only; rw [if_neg hx]⟩
set_option maxHeartbeats 8000000 in
theorem escape_walk (g : Nat) (s : ByteArray) (p : Nat) (w : World) (h : RAt w g s p 0) :
    Calls Tryz.prog 75 #[.pointer (some ⟨g, 0, none⟩)] w (EscW g s p (escR (s.data.toList.drop p)) w) := by
  have hsm := h.2.2
  have hp := h.2.1
  have hlen : ∀ k, (s.data.toList.drop k).length = s.size - k := fun k => by simp
  have HLEN := Lib.hid hlen
  have c34 := at_walk g s p 0 34 w h
  have c92 := fun n => at_walk g s p 0 92 (w.drewN n) (h.dn n)
  have cwd := fun n => word_walk g s p ⟨#[117, 48, 48]⟩ [117, 48, 48] rfl (by decide) (w.drewN n) (h.dn n)
  have H := Lib.hid h
  obtain ⟨a34, h34⟩ : ∃ b, atB (s.data.toList.drop p) 34 = b := ⟨_, rfl⟩
  obtain ⟨a92, h92⟩ : ∃ b, atB (s.data.toList.drop p) 92 = b := ⟨_, rfl⟩
  rw [h34] at c34
  rw [h92] at c92
  have C34 := Lib.hid c34
  have C92 := Lib.hid c92
  clear c34 c92 h hlen
  by_cases hq : a34 = true ∨ a92 = true
  · -- a quote, a backslash
    have hc : ∃ (b : Nat) (r : List UInt8), b < 256 ∧ s.data.toList.drop p = UInt8.ofNat b :: r ∧ (UInt8.ofNat b = 34 ∨ UInt8.ofNat b = 92) ∧ ∃ hlt : p < s.size, (s[p]'hlt).toNat = b := by
      have hx : ∃ c r, s.data.toList.drop p = c :: r ∧ (c = 34 ∨ c = 92) := by
        rcases hq with e | e
        · obtain ⟨r, hr⟩ := atB_true (h34.trans e)
          exact ⟨34, r, hr, .inl rfl⟩
        · obtain ⟨r, hr⟩ := atB_true (h92.trans e)
          exact ⟨92, r, hr, .inr rfl⟩
      obtain ⟨c, r, hr, hcc⟩ := hx
      have hlt := (drop_succ hr).1
      have hd := drop_cons hlt rfl
      have e1 := hd.symm.trans hr
      injection e1 with e1 e2
      exact ⟨(s[p]'hlt).toNat, r, (s[p]'hlt).toNat_lt, by rw [e1]; exact hr, by rw [e1]; exact hcc, hlt, rfl⟩
    obtain ⟨b, r, hb, hl, hcc, hlt, eb⟩ := hc
    have hv : Hid (escR (s.data.toList.drop p) = some (UInt8.ofNat b, 1)) := by show _ = _; rw [hl, escR, if_pos hcc]
    have i1 := fun W => run_index_at (P := Tryz.prog) 9 Tryz.underlying9 s p b hlt eb W
    have hq1 : Hid ((p : Int) + 1 = ((p + 1 : Nat) : Int)) := by show _ = _; omega
    have HPH : Hid (∀ n, RAt ((w.drewN n).setCell ⟨g, 1, none⟩ (.int .i64 ((p : Int) + 1))) g s (p + 1) 0) := fun n => by rw [hq1.out]; exact ((H.out.dn n).put (p + 1) (by omega)).1
    have HGH : Hid (∀ n, w.grownBy ((w.drewN n).setCell ⟨g, 1, none⟩ (.int .i64 ((p : Int) + 1))) (some g)) := fun n => by rw [hq1.out]; exact grown_then (grown_dn (only_refl w (some g)) n) ((H.out.dn n).put (p + 1) (by omega)).2 (fun q e => by injection e with e; exact .inl e.symm)
    have hbn : Hid ((b : Int) = ((UInt8.ofNat b).toNat : Int)) := by show _ = _; simp; omega
    have hwp : IntKind.i64.wrap ((p : Int) + 1 - 1) = (p : Int) := by rw [IntKind.wrap_i64]; omega
    have hwp2 : IntKind.i64.wrap (p : Int) = (p : Int) := by rw [IntKind.wrap_i64]; omega
    clear hl hcc cwd h34 h92
    cases a34
    · obtain rfl : a92 = true := by simpa using hq
      clear hq
      go_enter Tryz.func75, Tryz.ntmps75
      go_wp2_with fail
      refine C34.out.mono ?_
      rintro _ w1 ⟨rfl, n1, rfl⟩
      go_wp2_with fail
      refine (C92.out n1).mono ?_
      rintro _ w1 ⟨rfl, n2, rfl⟩
      rw [World.drewN_drewN]
      obtain ⟨c0, c1, f1, -, -⟩ := (H.out.dn (n1 + n2)).facts
      go_wp2_with fail
      have hP2 := HPH.out (n1 + n2)
      have hG2 := HGH.out (n1 + n2)
      generalize (w.drewN (n1 + n2)).setCell ⟨g, 1, none⟩ (.int .i64 ((p : Int) + 1)) = W2 at hP2 hG2 ⊢
      obtain ⟨d0, d1, -, -, -⟩ := hP2.facts
      rw [← hq1.out] at d1
      have HP2 := Lib.hid hP2
      have HG2 := Lib.hid hG2
      clear hP2 hG2 c0 c1 f1
      go_wp2_with fail
      go_quiet (fail)
      go_wp2_with fail
      go_ret
      exact ⟨grown_dn HG2.out nq, by rw [hv.out]; exact ⟨by rw [← hbn.out]; rfl, HP2.out.dn nq⟩⟩
    · clear hq
      go_enter Tryz.func75, Tryz.ntmps75
      go_wp2_with fail
      refine C34.out.mono ?_
      rintro _ w1 ⟨rfl, n1, rfl⟩
      obtain ⟨c0, c1, f1, -, -⟩ := (H.out.dn n1).facts
      go_wp2_with fail
      have hP2 := HPH.out n1
      have hG2 := HGH.out n1
      generalize (w.drewN n1).setCell ⟨g, 1, none⟩ (.int .i64 ((p : Int) + 1)) = W2 at hP2 hG2 ⊢
      obtain ⟨d0, d1, -, -, -⟩ := hP2.facts
      rw [← hq1.out] at d1
      have HP2 := Lib.hid hP2
      have HG2 := Lib.hid hG2
      clear hP2 hG2 c0 c1 f1
      go_wp2_with fail
      go_quiet (fail)
      go_wp2_with fail
      go_ret
      exact ⟨grown_dn HG2.out nq, by rw [hv.out]; exact ⟨by rw [← hbn.out]; rfl, HP2.out.dn nq⟩⟩
  obtain ⟨rfl, rfl⟩ : a34 = false ∧ a92 = false := by simpa using hq
  have CWD := Lib.hid cwd
  clear hq cwd
  have hnq : ∀ c r, s.data.toList.drop p = c :: r → ¬ (c = 34 ∨ c = 92) := fun c r e hcc => by
    rw [e] at h34 h92
    simp [atB] at h34 h92
    rcases hcc with h | h
    · exact h34 h
    · exact h92 h
  clear h34 h92
  cases hpx : ([117, 48, 48] : List UInt8).isPrefixOf (s.data.toList.drop p)
  · have hv : Hid (escR (s.data.toList.drop p) = none) := by
      show _ = _
      cases hl : s.data.toList.drop p with
      | nil => rfl
      | cons c r => rw [hl] at hpx; exact escR_short (hnq c r hl) hpx
    rw [hpx] at CWD
    clear hnq hpx
    go_enter Tryz.func75, Tryz.ntmps75
    go_wp2_with fail
    refine C34.out.mono ?_
    rintro _ w1 ⟨rfl, n1, rfl⟩
    go_wp2_with fail
    refine (C92.out n1).mono ?_
    rintro _ w1 ⟨rfl, n2, rfl⟩
    rw [World.drewN_drewN]
    go_wp2_with fail
    refine (CWD.out (n1 + n2)).mono ?_
    rintro _ W2 ⟨rfl, hg2, hR2⟩
    have HR2 := Lib.hid (show RAt W2 g s p 3 from hR2)
    have HG2 := Lib.hid (grown_then (grown_dn (only_refl w (some g)) (n1 + n2)) hg2 (fun q e => .inl (by injection e with e; exact e.symm)))
    obtain ⟨c0, c1, f1, c2, f2⟩ := HR2.out.facts
    have CF := Lib.hid (fun n => fail_walk g s p 3 3 (W2.drewN n) (HR2.out.dn n))
    clear hg2 hR2
    go_wp2_with fail
    go_quiet (fail)
    go_wp2_with fail
    refine (CF.out nq).mono ?_
    rintro _ W3 ⟨rfl, hR3, hg3⟩
    have HR3 := Lib.hid (show RAt W3 g s p 3 from hR3)
    have HG3 := Lib.hid (grown_then (grown_dn HG2.out nq) hg3 (fun q e => .inl (by injection e with e; exact e.symm)))
    clear hR3 hg3
    go_wp2_with fail
    go_ret
    exact ⟨HG3.out, by rw [hv.out]; exact ⟨0, p, Nat.le_refl _, rfl, by decide, HR3.out⟩⟩
  obtain ⟨r3, hr3⟩ := List.isPrefixOf_iff_prefix.1 hpx
  rw [hpx] at CWD
  have hl3 := congrArg List.length hr3
  rw [HLEN.out] at hl3
  simp only [List.length_append, List.length_cons, List.length_nil] at hl3
  have hd3 : s.data.toList.drop (p + 3) = r3 := by rw [← List.drop_drop, ← hr3]; rfl
  have hesc : escR (s.data.toList.drop p) = escR (117 :: 48 :: 48 :: r3) := by rw [← hr3]; rfl
  obtain ⟨p3, hp3⟩ : ∃ p3, p + 3 = p3 := ⟨_, rfl⟩
  rw [hp3] at hd3
  have CWD3 : Hid (∀ n, Calls Tryz.prog 51 #[.pointer (some ⟨g, 0, none⟩), .string ⟨#[117, 48, 48]⟩] (w.drewN n) fun f w' => f = .returned (.tuple #[]) ∧ (w.drewN n).grownBy w' (some g) ∧ RAt w' g s p3 0) := fun n => (CWD.out n).mono fun f w' h => by
    obtain ⟨h1, h2, h3⟩ := h
    rw [← hp3]
    exact ⟨h1, h2, h3⟩
  have hps : p3 ≤ s.size := by omega
  have HLP : Hid (p ≤ p3) := by show _ ≤ _; omega
  have hsz3 : r3.length = s.size - p3 := by omega
  clear hnq hpx CWD hr3
  have w1 : IntKind.i64.wrap ((s.size : Int) - (p3 : Int)) = ((s.size - p3 : Nat) : Int) := by rw [IntKind.wrap_i64]; omega
  by_cases h2 : s.size - p3 < 2
  · have hv : Hid (escR (s.data.toList.drop p) = none) := by show _ = _; rw [hesc]; exact escR_few (by omega)
    have d1 : decide (((s.size - p3 : Nat) : Int) < 2) = true := by simp; omega
    have d2 : decide (s.size - p3 < 2) = true := by simp; omega
    clear hesc hd3 hl3 hsz3 hp3
    go_enter Tryz.func75, Tryz.ntmps75
    go_wp2_with fail
    refine C34.out.mono ?_
    rintro _ w1 ⟨rfl, n1, rfl⟩
    go_wp2_with fail
    refine (C92.out n1).mono ?_
    rintro _ w1 ⟨rfl, n2, rfl⟩
    rw [World.drewN_drewN]
    go_wp2_with fail
    refine (CWD3.out (n1 + n2)).mono ?_
    rintro _ W2 ⟨rfl, hg2, hR2⟩
    have HR2 := Lib.hid hR2
    have HG2 := Lib.hid (grown_then (grown_dn (only_refl w (some g)) (n1 + n2)) hg2 (fun q e => .inl (by injection e with e; exact e.symm)))
    obtain ⟨c0, c1, f1, c2, f2⟩ := HR2.out.facts
    have CF := Lib.hid (fun n => fail_walk g s p3 0 3 (W2.drewN n) (HR2.out.dn n))
    clear hg2 hR2
    go_wp2_with fail
    go_quiet (fail)
    go_wp2_with fail
    refine (CF.out nq).mono ?_
    rintro _ W3 ⟨rfl, hR3, hg3⟩
    have HR3 := Lib.hid (show RAt W3 g s p3 3 from hR3)
    have HG3 := Lib.hid (grown_then (grown_dn HG2.out nq) hg3 (fun q e => .inl (by injection e with e; exact e.symm)))
    clear hR3 hg3
    go_wp2_with fail
    go_ret
    exact ⟨HG3.out, by rw [hv.out]; exact ⟨0, p3, HLP.out, rfl, by decide, HR3.out⟩⟩
  have hlt3 : p3 < s.size := by omega
  have hlt4 : p3 + 1 < s.size := by omega
  obtain ⟨a, ea, ha⟩ : ∃ b : Nat, (s[p3]'hlt3).toNat = b ∧ b < 256 := ⟨_, rfl, (s[p3]'hlt3).toNat_lt⟩
  obtain ⟨b, eb, hb⟩ : ∃ b : Nat, (s[p3 + 1]'hlt4).toNat = b ∧ b < 256 := ⟨_, rfl, (s[p3 + 1]'hlt4).toNat_lt⟩
  obtain ⟨p4, hp4⟩ : ∃ p4, p3 + 1 = p4 := ⟨_, rfl⟩
  have hr3 : r3 = UInt8.ofNat a :: UInt8.ofNat b :: s.data.toList.drop (p3 + 1 + 1) := by rw [← hd3, drop_cons hlt3 ea, drop_cons hlt4 eb]
  have i3 := fun W => run_index_at (P := Tryz.prog) 9 Tryz.underlying9 s p3 a hlt3 ea W
  have i4 := fun W => run_index_at (P := Tryz.prog) 9 Tryz.underlying9 s (p3 + 1) b hlt4 eb W
  rw [hp4] at i4 hlt4
  have w2 : IntKind.i64.wrap ((p3 : Int) + 1) = (p4 : Int) := by rw [IntKind.wrap_i64]; omega
  have d1 : decide (((s.size - p3 : Nat) : Int) < 2) = false := by simp; omega
  have d2 : decide (s.size - p3 < 2) = false := by simp; omega
  have CA := Lib.hid (fun W => small_walk a ha W)
  have CB := Lib.hid (fun W => small_walk b hb W)
  have hcs := esc_cases a b ha hb (s.data.toList.drop (p3 + 1 + 1))
  rw [← hr3, ← hesc] at hcs
  have HCS := Lib.hid hcs
  have hq2 : Hid ((p3 : Int) + 2 = ((p3 + 2 : Nat) : Int)) := by show _ = _; omega
  have HE5 : Hid (p + 5 = p3 + 2) := by show _ = _; omega
  have hle5 : p3 + 2 ≤ s.size := by omega
  obtain ⟨z1, hz1⟩ : ∃ z, smallI a = z := ⟨_, rfl⟩
  obtain ⟨z2, hz2⟩ : ∃ z, smallI b = z := ⟨_, rfl⟩
  rw [hz1] at CA HCS
  rw [hz2] at CB HCS
  clear hcs hesc hd3 hl3 hsz3 hp3 hr3 hz1 hz2 h2 ea eb
  rcases HCS.out with ⟨hbad, hv⟩ | ⟨x, y, e1, e2, hv⟩
  · have HV := Lib.hid hv
    have hbb : decide (z1 < 0) = true ∨ (decide (z1 < 0) = false ∧ decide (1 < z1) = true) ∨ (decide (z1 < 0) = false ∧ decide (1 < z1) = false ∧ decide (z2 < 0) = true) := by
      by_cases k1 : z1 < 0
      · left; simpa using k1
      · by_cases k2 : 1 < z1
        · right; left; exact ⟨by simpa using k1, by simpa using k2⟩
        · right; right; exact ⟨by simpa using k1, by simpa using k2, by simp; omega⟩
    clear hbad hv HCS
    rcases hbb with k1 | ⟨k1, k2⟩ | ⟨k1, k2, k3⟩
    all_goals
      go_enter Tryz.func75, Tryz.ntmps75
      go_wp2_with fail
      refine C34.out.mono ?_
      rintro _ w1 ⟨rfl, n1, rfl⟩
      go_wp2_with fail
      refine (C92.out n1).mono ?_
      rintro _ w1 ⟨rfl, n2, rfl⟩
      rw [World.drewN_drewN]
      go_wp2_with fail
      refine (CWD3.out (n1 + n2)).mono ?_
      rintro _ W2 ⟨rfl, hg2, hR2⟩
      have HR2 := Lib.hid hR2
      have HG2 := Lib.hid (grown_then (grown_dn (only_refl w (some g)) (n1 + n2)) hg2 (fun q e => .inl (by injection e with e; exact e.symm)))
      obtain ⟨c0, c1, f1, c2, f2⟩ := HR2.out.facts
      clear hg2 hR2
      go_wp2_with fail
      go_quiet (fail)
      revert nq; intro m1
      go_wp2_with fail
      go_quiet ((go_at_call 90; first | (with_reducible refine (CA.out _).mono ?_; rintro e w9 ⟨rfl, rfl⟩; exact ⟨rfl, _, rfl⟩) | (with_reducible refine (CB.out _).mono ?_; rintro e w9 ⟨rfl, rfl⟩; exact ⟨rfl, _, rfl⟩)))
      go_wp2_with fail
      have hput := (HR2.out.dn (m1 + nq)).put (p3 + 2) hle5
      rw [← hq2.out] at hput
      have CF := Lib.hid (fail_walk g s (p3 + 2) 0 3 _ hput.1)
      have HGP := Lib.hid (grown_then (grown_dn HG2.out (m1 + nq)) hput.2 (fun q e => .inl (by injection e with e; exact e.symm)))
      clear hput
      refine CF.out.mono ?_
      rintro _ W3 ⟨rfl, hR3, hg3⟩
      have HR3 := Lib.hid (show RAt W3 g s (p3 + 2) 3 from hR3)
      have HG3 := Lib.hid (grown_then HGP.out hg3 (fun q e => .inl (by injection e with e; exact e.symm)))
      clear hR3 hg3
      go_wp2_with fail
      go_ret
      exact ⟨HG3.out, by rw [HV.out]; exact ⟨0, p3 + 2, by have := HLP.out; omega, rfl, by decide, HR3.out⟩⟩
  · have HV := Lib.hid hv
    obtain ⟨x, hx⟩ := x
    obtain ⟨y, hy⟩ := y
    simp only at e1 e2 HV
    subst e1 e2
    have hr1 : Hid (((x * 16 + y : Nat) : Int) = ((UInt8.ofNat (x * 16 + y)).toNat : Int)) := by show _ = _; simp; omega
    have k1 : decide (((x : Nat) : Int) < 0) = false := by simp
    have k2 : decide ((1 : Int) < ((x : Nat) : Int)) = false := by simp; omega
    have k2' : decide (1 < x) = false := by simp; omega
    have k3 : decide (((y : Nat) : Int) < 0) = false := by simp
    have w3 : IntKind.u8.wrap ((x : Int) * 16 + (y : Int)) = ((x * 16 + y : Nat) : Int) := by rw [wrap_u8]; omega
    clear hv HCS
    go_enter Tryz.func75, Tryz.ntmps75
    go_wp2_with fail
    refine C34.out.mono ?_
    rintro _ w1 ⟨rfl, n1, rfl⟩
    go_wp2_with fail
    refine (C92.out n1).mono ?_
    rintro _ w1 ⟨rfl, n2, rfl⟩
    rw [World.drewN_drewN]
    go_wp2_with fail
    refine (CWD3.out (n1 + n2)).mono ?_
    rintro _ W2 ⟨rfl, hg2, hR2⟩
    have HR2 := Lib.hid hR2
    have HG2 := Lib.hid (grown_then (grown_dn (only_refl w (some g)) (n1 + n2)) hg2 (fun q e => .inl (by injection e with e; exact e.symm)))
    obtain ⟨c0, c1, f1, c2, f2⟩ := HR2.out.facts
    clear hg2 hR2
    go_wp2_with fail
    go_quiet (fail)
    revert nq; intro m1
    go_wp2_with fail
    go_quiet ((go_at_call 90; first | (with_reducible refine (CA.out _).mono ?_; rintro e w9 ⟨rfl, rfl⟩; exact ⟨rfl, _, rfl⟩) | (with_reducible refine (CB.out _).mono ?_; rintro e w9 ⟨rfl, rfl⟩; exact ⟨rfl, _, rfl⟩)))
    have hput := (HR2.out.dn (m1 + nq)).put (p3 + 2) hle5
    rw [← hq2.out] at hput
    have HPU := Lib.hid hput.1
    have HGP := Lib.hid (grown_then (grown_dn HG2.out (m1 + nq)) hput.2 (fun q e => .inl (by injection e with e; exact e.symm)))
    clear hput
    go_wp2_with fail
    go_ret
    exact ⟨HGP.out, by rw [HV.out]; exact ⟨by rw [← hr1.out]; rfl, by rw [HE5.out]; exact HPU.out⟩⟩
end Go.Proofs.YtokgkifckgnabaaGreatDoor

import Derived.Test.YtekpdkjkkglcjaaDd
set_option linter.unusedVariables false
set_option linter.unusedSimpArgs false
set_option maxRecDepth 20000
namespace Go.Proofs.Ytekpdkjkkglcjaa
open Go.RowKit
theorem only_grown {a b c : World} {g : Nat} {row : Option Nat} (h : a.grownBy b (some g)) (k : b.grownBy c row) (hr : ∀ q, row = some q → a.heap.size ≤ q) : a.grownBy c (some g) :=
  ⟨k.os.trans h.os, k.tape.trans h.tape, k.output.trans h.output, Nat.le_trans h.size k.size, fun i hi hne => (k.block i (Nat.lt_of_lt_of_le hi h.size) (fun e => by have := hr i e.symm; omega)).trans (h.block i hi hne)⟩
theorem own_only {w w' : World} {g base : Nat} {e : TypeId} {size n : Nat} {v : Value} {xs : List Value} (h : w.ownsRow base e size v n xs) (hg : w.grownBy w' (some g)) (hlt : g < base) : w'.ownsRow base e size v n xs := by
  refine h.kept hg (.inr (fun e => ?_))
  have := h.lt g e
  omega
theorem info_parts4 {P : Program} {t : TypeId} {z : Value} {n b : Nat} (h : (P.info? t).map (fun i => (i.zero, i.size, i.bytes)) = some (some z, n, b)) : ∃ i, P.info? t = some i ∧ i.zero = some z ∧ i.size = n ∧ i.bytes = b := by
  cases hi : P.info? t with
  | none => rw [hi] at h; cases h
  | some i =>
    rw [hi] at h
    simp at h
    exact ⟨i, rfl, h.1, h.2.1, h.2.2⟩
theorem info_term : (Try.prog.info? 35).map (fun i => (i.zero, i.size, i.bytes)) = some (some (.agg #[.int .i64 0, .int .i64 0, .string ⟨#[]⟩, .slice none 0 0]), 4, 56) := by kernel_rfl
theorem decK_add (d : Nat) (l : List UInt8) : ∀ (i j p n : Nat), decK (i + j) d l p n = match decK i d l p n with | .error e => .error e | .ok (ts, q, n') => (match decK j d l q n' with | .error e => .error e | .ok (us, q', n'') => .ok (ts ++ us, q', n''))
  | 0, j, p, n => by
    rw [Nat.zero_add]
    conv => rhs; rw [decK]
    simp only [List.nil_append]
    cases decK j d l p n with
    | error e => rfl
    | ok r => obtain ⟨us, q', n''⟩ := r; rfl
  | i + 1, j, p, n => by
    rw [show i + 1 + j = (i + j) + 1 by omega, decK, decK]
    cases hT : decT d l p n with
    | error e => rfl
    | ok r =>
      obtain ⟨t, q, n'⟩ := r
      simp only
      rw [decK_add d l i j q n']
      cases hK : decK i d l q n' with
      | error e => rfl
      | ok r2 =>
        obtain ⟨ts, q2, n2⟩ := r2
        simp only
        cases hJ : decK j d l q2 n2 with
        | error e => rfl
        | ok r3 => obtain ⟨us, q3, n3⟩ := r3; rfl
theorem decK_one (d : Nat) (l : List UInt8) (p n : Nat) : decK 1 d l p n = match decT d l p n with | .error e => .error e | .ok (t, q, n') => .ok ([t], q, n') := by
  rw [decK]
  cases decT d l p n with
  | error e => rfl
  | ok r => obtain ⟨t, q, n'⟩ := r; simp only [decK]
def TermR (g : Nat) (l : List UInt8) (r : Except Int (Tm × Nat × Nat)) (w : World) (e : Ending) (w' : World) : Prop :=
  match r with
  | .error c => ∃ (kd nm : Int) (s : ByteArray) (A : Option Addr) (m cp : Nat), e = .returned (.tuple #[.agg #[.int .i64 kd, .int .i64 nm, .string s, .slice A m cp], .iface 60 (.int .i64 c)]) ∧ w.grownBy w' (some g)
  | .ok (t, q, n') => ∃ cs, e = .returned (.tuple #[.agg cs.toArray, .nilIface]) ∧ TmV w' w.heap.size t cs ∧ RdAt w' g l q n' ∧ n' ≤ 64 ∧ w.grownBy w' (some g)
def KidsR (g : Nat) (l : List UInt8) (r : Except Int (List Tm × Nat × Nat)) (w : World) (e : Ending) (w' : World) : Prop :=
  match r with
  | .error c => ∃ (A : Option Addr) (m cp : Nat), e = .returned (.tuple #[.slice A m cp, .iface 60 (.int .i64 c)]) ∧ w.grownBy w' (some g)
  | .ok (ts, q, n') => ∃ A cp vs, e = .returned (.tuple #[.slice A ts.length cp, .nilIface]) ∧ ts.length ≤ cp ∧ cp ≤ 9223372036854775807 ∧ Reads w' w'.heap.size 4 A ts.length (List.flatten vs) ∧ (0 < ts.length → ∀ ad, A = some ad → w.heap.size ≤ ad.block) ∧ TmsV w' w.heap.size ts vs ∧ RdAt w' g l q n' ∧ n' ≤ 64 ∧ w.grownBy w' (some g)
/-- the contract of term, at a depth -/
def TermOk (d : Nat) : Prop := ∀ (l : List UInt8) (g p n : Nat) (deep : Int) (w : World), deep + d = 17 → n ≤ 64 → RdAt w g l p n →
  Calls Try.prog 67 #[.pointer (some ⟨g, 0, none⟩), .int .i64 deep] w (TermR g l (decT d l p n) w)
theorem TmV.form {w : World} {lo : Nat} {t : Tm} {cs : List Value} (h : TmV w lo t cs) : ∃ (kd nm : Int) (s : ByteArray) (A : Option Addr) (m cp : Nat), cs = [.int .i64 kd, .int .i64 nm, .string s, .slice A m cp] := by
  cases t
  rw [TmV] at h
  obtain ⟨A, c, vs, rfl, _⟩ := h
  exact ⟨_, _, _, _, _, _, rfl⟩
set_option maxHeartbeats 2000000 in
theorem kids_walk (d : Nat) (hT : TermOk d) (l : List UInt8) (g p n m : Nat) (deep : Int) (w : World) (hdp : deep + d = 17) (hn : n ≤ 64) (hm : m = 1 ∨ m = 2) (h : RdAt w g l p n) :
    Calls Try.prog 75 #[.pointer (some ⟨g, 0, none⟩), .int .i64 m, .int .i64 deep] w (KidsR g l (decK m d l p n) w) := by
  obtain ⟨i0, hi, hz0, hz1, hz2⟩ := info_parts4 info_term
  obtain ⟨w0, hmk, hown0, hgr0⟩ := run_make_own (P := Try.prog) w w.heap.size 33 35 i0 _ 4 Try.underlying33 hi hz0 hz1 .i64 .i64 m (by rw [hz2]; omega) (by unfold maxLen; omega) (Nat.le_refl _)
  have hgl := h.lt
  have hm2 : m ≤ 2 := by omega
  have HM := Lib.hid hm
  have ho0 := Lib.hid hown0
  have hr0 := Lib.hid (h.grown hgr0 (fun q e => by cases e))
  have hg0 : Hid (w.grownBy w0 (some g)) := only_grown (only_refl w _) hgr0 (fun q e => by cases e)
  clear hm h hown0 hgr0
  go_enter Try.func75, Try.ntmps75
  go_wp2_with fail
  go_loopw [8, 14] (fun ov iv wr => ∃ (i : Nat) (ts : List Tm) (vs : List (List Value)) (q n' : Nat), i ≤ m ∧ iv = .int .i64 i ∧ Hid (decK i d l p n = .ok (ts, q, n')) ∧ ts.length = i ∧ n' ≤ 64 ∧ ov = .slice (some ⟨w.heap.size, 0, none⟩) i m ∧ Hid (wr.ownsRow w.heap.size 35 4 (.slice (some ⟨w.heap.size, 0, none⟩) i m) i (List.flatten vs)) ∧ Hid (TmsV wr (w.heap.size + 1) ts vs) ∧ Hid (RdAt wr g l q n') ∧ Hid (w.grownBy wr (some g))) (fun _ iv _ => m - (intOf iv).toNat)
  case atStart => exact ⟨0, [], [], p, n, by omega, rfl, by show _ = _; rw [decK], rfl, hn, rfl, ho0, by show TmsV _ _ _ _; rw [TmsV], hr0, hg0⟩
  case round =>
    clear ho0 hr0 hg0
    obtain ⟨i, ts, vs, q, n', hi2, rfl, hdk, hlen, hn', rfl, hown, htms, hrt, hg⟩ := hrel
    by_cases hlt : i < m
    · have ct := Lib.hid (hT l g q n' deep wr hdp hn' hrt.out)
      cases hD : decT d l q n' with
      | error c =>
        have hv : Hid (decK m d l p n = .error c) := by
          show _ = _
          rw [show m = i + (1 + (m - i - 1)) by omega, decK_add, hdk.out]
          simp only
          rw [decK_add, decK_one, hD]
        rw [hD] at ct
        clear hD
        go_wp2_with fail
        refine ct.out.mono ?_
        rintro _ w1 ⟨kd, nm, s, A, mm, cp, rfl, hg1⟩
        have HG := Lib.hid (only_trans hg.out hg1)
        clear hg1 ct hg hrt htms hdk
        go_wp2_with fail
        go_ret2
        rw [hv.out]
        exact ⟨none, 0, 0, rfl, only_alloc HG.out _⟩
      | ok r =>
        obtain ⟨t, q2, n2⟩ := r
        have hdk2 : Hid (decK (i + 1) d l p n = .ok (ts ++ [t], q2, n2)) := by
          show _ = _
          rw [decK_add, hdk.out]
          simp only
          rw [decK_one, hD]
        rw [hD] at ct
        clear hD
        go_wp2_with fail
        refine ct.out.mono ?_
        rintro _ w1 ⟨cs, rfl, htv, hr1, hn2, hg1⟩
        obtain ⟨kd, nm, s, A, mm, cp, rfl⟩ := htv.form
        have hown1 := own_only hown.out hg1 hgl
        have hwr : w.heap.size + 1 ≤ wr.heap.size := by have := hown.out.lt w.heap.size rfl; omega
        have hs1 := hg1.size
        have hgm := hg1
        have HG := Lib.hid (only_trans hg.out hg1)
        have hcl : [Value.int .i64 kd, .int .i64 nm, .string s, .slice A mm cp].length = 1 * 4 := rfl
        have hsz1 : (w1.alloc (.cells #[.int .i64 kd, .int .i64 nm, .string s, .slice A mm cp] 35)).heap.size = w1.heap.size + 1 := by simp
        have hnw := reads_new (w1.alloc (.cells #[.int .i64 kd, .int .i64 nm, .string s, .slice A mm cp] 35)) 35 [.int .i64 kd, .int .i64 nm, .string s, .slice A mm cp]
        rw [hsz1] at hnw
        obtain ⟨_, hnw2⟩ := hnw
        obtain ⟨ad, ea, _, hnc⟩ := hnw2 (by omega)
        injection ea with ea
        subst ea
        have HW2 := Lib.hid (show w1.grownBy ((w1.alloc (.cells #[.int .i64 kd, .int .i64 nm, .string s, .slice A mm cp] 35)).alloc (.cells #[.int .i64 kd, .int .i64 nm, .string s, .slice A mm cp] 35)) none from only_alloc (only_alloc (only_refl _ _) _) _)
        have HTV := Lib.hid ((htv.low (lo' := w.heap.size + 1) hwr).grown HW2.out (fun q e => by cases e))
        have HTS := Lib.hid (((htms.out.grown hg1 (fun q e => by injection e with e; omega))).grown HW2.out (fun q e => by cases e))
        have HRT := Lib.hid (hr1.grown HW2.out (fun q e => by cases e))
        have HG2 := Lib.hid (only_grown HG.out HW2.out (fun q e => by cases e))
        have hown2 := (hown1.alloc (.cells #[.int .i64 kd, .int .i64 nm, .string s, .slice A mm cp] 35)).alloc (.cells #[.int .i64 kd, .int .i64 nm, .string s, .slice A mm cp] 35)
        clear htv hr1 hg1 ct hg hrt htms hdk hown hgm hown1 HG HW2 hnw2
        go_wp2_with (at_builtin; (refine wpList_append_fits _ rfl (.tmp 25) (.tmp 27) 33 rfl w.heap.size 35 i0 4 Try.underlying33 hi hz1 w.heap.size i m (List.flatten vs) rfl hown2 ⟨w1.heap.size + 1, 0, none⟩ 1 1 [.int .i64 kd, .int .i64 nm, .string s, .slice A mm cp] rfl hcl hnc (by simp [Value.oneCell']) (by omega) ?_); intro w3 hown3 hg3)
        have hTS3 := Lib.hid ((TmsV.snoc HTV.out HTS.out).grown hg3 (fun q e => by injection e with e; omega))
        have hRT3 := Lib.hid (HRT.out.grown hg3 (fun q e => by injection e with e; omega))
        have hG3 := Lib.hid (only_grown HG2.out hg3 (fun q e => by injection e with e; omega))
        refine ⟨⟨i + 1, ts ++ [t], vs ++ [[.int .i64 kd, .int .i64 nm, .string s, .slice A mm cp]], q2, n2, by omega, by go_num, hdk2, by rw [List.length_append, hlen]; rfl, hn2, rfl, ?_, hTS3, hRT3, hG3⟩, by simp [intOf]; omega⟩
        show World.ownsRow _ _ _ _ _ _ _
        rw [List.flatten_append]
        simpa using hown3
    · obtain rfl : i = m := by omega
      obtain ⟨A, cp, eA, hc, hrd⟩ := own_reads hown.out (Nat.le_refl _)
      injection eA with e1 e2 e3
      subst e1 e3
      go_wp2_with fail
      go_ret2
      rw [hdk.out]
      exact ⟨_, i, vs, by rw [hlen]; rfl, by omega, by omega, by rw [hlen]; exact hrd, fun _ ad e => by injection e with e; rw [← e]; exact Nat.le_refl _, htms.out.low (Nat.le_succ _), hrt.out, hn', hg.out⟩
end Go.Proofs.Ytekpdkjkkglcjaa

import Derived.Test.YtekpdkjkkglcjaaDc
set_option linter.unusedVariables false
set_option linter.unusedSimpArgs false
set_option maxRecDepth 20000
namespace Go.Proofs.Ytekpdkjkkglcjaa
open Go.RowKit
def AtomR (g : Nat) (l : List UInt8) (n : Nat) (r : Except Int (ByteArray × Nat)) (w : World) (e : Ending) (w' : World) : Prop :=
  match r with
  | .error c => ∃ s : ByteArray, e = .returned (.tuple #[.string s, .iface 60 (.int .i64 c)]) ∧ w.grownBy w' (some g)
  | .ok (s, q) => e = .returned (.tuple #[.string s, .nilIface]) ∧ RdAt w' g l q n ∧ w.grownBy w' (some g)
set_option maxHeartbeats 1000000 in
theorem atom_walk (l : List UInt8) (g p n : Nat) (w : World) (h : RdAt w g l p n) :
    Calls Try.prog 73 #[.pointer (some ⟨g, 0, none⟩)] w (AtomR g l n (atomT l p) w) := by
  have cn := Lib.hid (number_walk l g p n 2 1024 w h (by omega) (by omega))
  cases hN : numT l p 2 1024 with
  | error c =>
    have hv : Hid (atomT l p = .error c) := by show _ = _; rw [atomT, hN]
    rw [hN] at cn
    clear hN h
    go_enter Try.func73, Try.ntmps73
    go_wp2_with fail
    refine cn.out.mono ?_
    rintro _ w1 ⟨v, rfl, hg⟩
    have HG := Lib.hid hg
    clear hg cn
    go_wp2_with fail
    go_ret2
    rw [hv.out]
    exact ⟨⟨#[]⟩, rfl, HG.out⟩
  | ok r =>
    obtain ⟨m, q⟩ := r
    have hmq : m ≤ 1024 := by
      rw [numT] at hN
      split at hN
      · cases hN
      · split at hN
        · cases hN
        · injection hN with e; injection e with e1 e2; omega
    rw [hN] at cn
    by_cases hs : l.length < q + m
    · have hv : Hid (atomT l p = .error 1) := by show _ = _; rw [atomT, hN]; simp only [if_pos hs]
      have hst := fun W => reads_str (P := Try.prog) (w := W) (c := 0) (A := none) (n := 0) (l := []) (B := 0) Reads.none_ 49 9 5 Try.underlying49 Try.underlying5 Try.underlying9
      clear hN h
      go_enter Try.func73, Try.ntmps73
      go_wp2_with fail
      refine cn.out.mono ?_
      rintro _ w1 ⟨rfl, hrt, hg⟩
      have ct := Lib.hid (take_short l g q n m w1 hrt (by omega) hs)
      have HG := Lib.hid hg
      clear hg cn hrt hs
      go_wp2_with fail
      refine ct.out.mono ?_
      rintro _ w2 ⟨rfl, j, rfl⟩
      go_wp2_with fail
      go_ret2
      rw [hv.out]
      exact ⟨⟨#[]⟩, rfl, only_drewN HG.out j⟩
    · have hv : Hid (atomT l p = .ok (⟨((l.drop q).take m).toArray⟩, q + m)) := by show _ = _; rw [atomT, hN]; simp only [if_neg hs]
      have HQ := Lib.hid hs
      clear hN h hs
      go_enter Try.func73, Try.ntmps73
      go_wp2_with fail
      refine cn.out.mono ?_
      rintro _ w1 ⟨rfl, hrt, hg⟩
      have ct := Lib.hid (take_ok l g q n m w1 hrt (by omega) (by have := HQ.out; omega))
      have HG := Lib.hid hg
      clear hg cn hrt
      go_wp2_with fail
      refine ct.out.mono ?_
      rintro _ w2 ⟨A, c, rfl, hmc, hrd, hrt, hg⟩
      have HG2 := Lib.hid (only_trans HG.out hg)
      have HRT := Lib.hid hrt
      obtain ⟨bl, hbl⟩ : ∃ bl, (l.drop q).take m = bl := ⟨_, rfl⟩
      rw [hbl] at hrd hv
      clear hg HG hrt ct hbl
      have hst := fun c => reads_str (P := Try.prog) (c := c) hrd 49 9 5 Try.underlying49 Try.underlying5 Try.underlying9
      clear hrd
      go_wp2_with fail
      go_ret2
      rw [hv.out]
      exact ⟨rfl, HRT.out, HG2.out⟩
end Go.Proofs.Ytekpdkjkkglcjaa

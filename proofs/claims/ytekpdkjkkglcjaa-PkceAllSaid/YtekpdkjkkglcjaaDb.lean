import Derived.Test.YtekpdkjkkglcjaaDa
import Derived.Test.YtekpdkjkkglcjaaLt
import Derived.Test.YtekpdkjkkglcjaaIw
set_option linter.unusedVariables false
set_option linter.unusedSimpArgs false
set_option maxRecDepth 20000
namespace Go.Proofs.Ytekpdkjkkglcjaa
open Go.RowKit
/-- the reader's state: the bytes, the place, the nodes -/
def RdAt (w : World) (g : Nat) (l : List UInt8) (p n : Nat) : Prop :=
  l.length ≤ 1000000 ∧ p ≤ l.length ∧ n ≤ 1000000 ∧ ∃ A c, l.length ≤ c ∧ c ≤ 9223372036854775807 ∧ Blk w g 87 #[.slice A l.length c, .int .i64 (p : Int), .int .i64 (n : Int)] ∧ Reads w g 1 A l.length (Lib.byteCells l)
theorem RdAt.lt {w : World} {g : Nat} {l : List UInt8} {p n : Nat} (h : RdAt w g l p n) : g < w.heap.size := by
  obtain ⟨_, _, _, A, c, _, _, hb, _⟩ := h
  exact hb.lt
theorem RdAt.below {w w' : World} {g B : Nat} {l : List UInt8} {p n : Nat} (h : RdAt w g l p n) (hb : Below B w w') (hg : g < B) : RdAt w' g l p n := by
  obtain ⟨h1, h2, h3, A, c, hc, hc2, hk, hr⟩ := h
  exact ⟨h1, h2, h3, A, c, hc, hc2, hk.below hb hg, hr.below (hb.mono (by omega))⟩
theorem RdAt.grown {w w' : World} {g : Nat} {row : Option Nat} {l : List UInt8} {p n : Nat} (h : RdAt w g l p n) (hb : w.grownBy w' row) (hr : ∀ q, row = some q → g < q) : RdAt w' g l p n := by
  have hl := h.lt
  obtain ⟨h1, h2, h3, A, c, hc, hc2, hk, hd⟩ := h
  exact ⟨h1, h2, h3, A, c, hc, hc2, hk.grown hb (fun e => by have := hr g e.symm; omega), hd.grown hb (by omega) (fun q e => by have := hr q e; omega)⟩
set_option maxHeartbeats 1000000 in
theorem take_short (l : List UInt8) (g p n m : Nat) (w : World) (h : RdAt w g l p n) (hm : m ≤ 1000000) (hs : l.length < p + m) :
    Calls Try.prog 72 #[.pointer (some ⟨g, 0, none⟩), .int .i64 m] w fun e w' => e = .returned (.tuple #[.slice none 0 0, .iface 60 (.int .i64 1)]) ∧ ∃ q, w' = w.drewN q := by
  obtain ⟨h1, h2, h3, A, c, hc, hc2, hk, hr⟩ := h
  have hc0 : w.cell? ⟨g, 0, none⟩ = some (.slice A l.length c) := hk.cell 0
  have hc1 : w.cell? ⟨g, 1, none⟩ = some (.int .i64 p) := hk.cell 1
  have hd : decide ((l.length : Int) - (p : Int) < (m : Int)) = true := by simp; omega
  obtain ⟨len, hlen⟩ : ∃ len, l.length = len := ⟨_, rfl⟩
  rw [hlen] at h1 h2 hs hc hc0 hd
  have hwr : IntKind.i64.wrap ((len : Int) - (p : Int)) = (len : Int) - (p : Int) := by rw [IntKind.wrap_i64]; omega
  clear hk hr hlen
  go_enter Try.func72, Try.ntmps72
  go_wp2_with fail
  go_quiet (fail)
  go_wp2_with fail
  go_ret2
  exact ⟨rfl, _, rfl⟩
set_option maxHeartbeats 1000000 in
theorem take_ok (l : List UInt8) (g p n m : Nat) (w : World) (h : RdAt w g l p n) (hm : m ≤ 1000000) (hs : p + m ≤ l.length) :
    Calls Try.prog 72 #[.pointer (some ⟨g, 0, none⟩), .int .i64 m] w fun e w' => ∃ A' c', e = .returned (.tuple #[.slice A' m c', .nilIface]) ∧ m ≤ c' ∧ Reads w' g 1 A' m (Lib.byteCells ((l.drop p).take m)) ∧ RdAt w' g l (p + m) n ∧ w.grownBy w' (some g) := by
  obtain ⟨h1, h2, h3, A, c, hc, hc2, hk, hr⟩ := h
  have hc0 : w.cell? ⟨g, 0, none⟩ = some (.slice A l.length c) := hk.cell 0
  have hc1 : w.cell? ⟨g, 1, none⟩ = some (.int .i64 p) := hk.cell 1
  have hd : decide ((l.length : Int) - (p : Int) < (m : Int)) = false := by simp; omega
  obtain ⟨len, hlen⟩ : ∃ len, l.length = len := ⟨_, rfl⟩
  have HLEN := Lib.hid hlen
  rw [hlen] at h1 h2 hs hc hc0 hd
  have hf := hk.frozen 1
  have HS : Hid (∀ q, RdAt ((w.drewN q).setCell ⟨g, 1, none⟩ (.int .i64 ((p : Int) + (m : Int)))) g l (p + m) n) := fun q => by
    refine ⟨by omega, by omega, h3, A, c, by omega, hc2, ?_, hr.setCell (Nat.le_refl _) _⟩
    have := (hk.drewN q).set_ 1 (.int .i64 ((p : Int) + (m : Int)))
    simpa using this
  have HG : Hid (∀ q, w.grownBy ((w.drewN q).setCell ⟨g, 1, none⟩ (.int .i64 ((p : Int) + (m : Int)))) (some g)) := fun q => ⟨rfl, rfl, rfl, by simp [World.setCell], fun k _ hk => Below.heap_setCell _ _ _ _ (fun e => hk (by simp [e]))⟩
  have HD : Hid (∀ q, Reads ((w.drewN q).setCell ⟨g, 1, none⟩ (.int .i64 ((p : Int) + (m : Int)))) g 1 (A.map (·.add p)) m (Lib.byteCells ((l.drop p).take m))) := fun q => by
    have h5 : Reads ((w.drewN q).setCell ⟨g, 1, none⟩ (.int .i64 ((p : Int) + (m : Int)))) g 1 A l.length (Lib.byteCells l) := hr.setCell (Nat.le_refl _) _
    rcases Nat.eq_zero_or_pos m with h0 | h0
    · subst h0
      exact ⟨by simp [Lib.byteCells], fun h => absurd h (by omega)⟩
    · have h6 := h5.cutB (k := p) (cap := p + 1000001) (by omega) (by omega)
      rw [if_neg (by omega)] at h6
      exact h6.frontB (by omega)
  clear hk hr hlen
  have hwr : IntKind.i64.wrap ((len : Int) - (p : Int)) = (len : Int) - (p : Int) := by rw [IntKind.wrap_i64]; omega
  have hwp : IntKind.i64.wrap ((p : Int) + (m : Int)) = (p : Int) + (m : Int) := by rw [IntKind.wrap_i64]; omega
  have z1 : (0 : Int) ≤ (p : Int) + (m : Int) := by omega
  have z2 : (p : Int) ≤ (p : Int) + (m : Int) := by omega
  have z3 : (p : Int) + (m : Int) ≤ (c : Int) := by omega
  go_enter Try.func72, Try.ntmps72
  go_wp2_with fail
  go_quiet (fail)
  go_wp2_with fail
  go_quiet (fail)
  go_wp2_with fail
  all_goals
    go_ret2
    first
      | exact ⟨_, m, rfl, Nat.le_refl _, HD.out _, HS.out _, HG.out _⟩
      | (obtain rfl : m = 0 := by omega
         exact ⟨A, 0, rfl, Nat.le_refl _, ⟨by simp [Lib.byteCells], fun h => absurd h (by omega)⟩, by simpa using HS.out _, HG.out _⟩)
end Go.Proofs.Ytekpdkjkkglcjaa

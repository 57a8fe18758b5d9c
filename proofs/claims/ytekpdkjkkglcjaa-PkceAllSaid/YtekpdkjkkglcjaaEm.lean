/- countersignref2's reader: num. No condition of its own. -/
import Derived.Test.YtekpdkjkkglcjaaDg
set_option linter.unusedVariables false
set_option linter.unusedSimpArgs false
set_option maxRecDepth 20000
namespace Go.Proofs.Ytekpdkjkkglcjaa
open Go.RowKit
/-- the reader's state: the bytes, the place, the nodes behind; no error -/
def RRd (w : World) (g : Nat) (l : List UInt8) (p n : Nat) : Prop :=
  l.length ≤ 1000000 ∧ p ≤ l.length ∧ n ≤ 64 ∧ ∃ A c, l.length ≤ c ∧ c ≤ 9223372036854775807 ∧ Blk w g 93 #[.slice A l.length c, .int .i64 (p : Int), .int .i64 (64 - (n : Int)), .int .i64 0] ∧ Reads w g 1 A l.length (Lib.byteCells l)
/-- the reader has an error -/
def RErr (w : World) (g : Nat) (e : Int) : Prop := ∃ (v : Value) (a b : Int), Blk w g 93 #[v, .int .i64 a, .int .i64 b, .int .i64 e]
theorem RRd.lt {w : World} {g : Nat} {l : List UInt8} {p n : Nat} (h : RRd w g l p n) : g < w.heap.size := by
  obtain ⟨_, _, _, A, c, _, _, hb, _⟩ := h
  exact hb.lt
theorem RRd.grown {w w' : World} {g : Nat} {row : Option Nat} {l : List UInt8} {p n : Nat} (h : RRd w g l p n) (hb : w.grownBy w' row) (hr : ∀ q, row = some q → g < q) : RRd w' g l p n := by
  have hl := h.lt
  obtain ⟨h1, h2, h3, A, c, hc, hc2, hk, hd⟩ := h
  exact ⟨h1, h2, h3, A, c, hc, hc2, hk.grown hb (fun e => by have := hr g e.symm; omega), hd.grown hb (by omega) (fun q e => by have := hr q e; omega)⟩
theorem RErr.grown {w w' : World} {g : Nat} {row : Option Nat} {e : Int} (h : RErr w g e) (hb : w.grownBy w' row) (hr : ∀ q, row = some q → g < q) : RErr w' g e := by
  obtain ⟨v, a, b, hk⟩ := h
  exact ⟨v, a, b, hk.grown hb (fun e => by have := hr g e.symm; omega)⟩
def RNumR (g : Nat) (l : List UInt8) (p n m : Nat) (w : World) (e : Ending) (w' : World) : Prop :=
  w.grownBy w' (some g) ∧ ((l.length < p + m ∧ e = .returned (.int .i64 0) ∧ RErr w' g 1) ∨ (p + m ≤ l.length ∧ e = .returned (.int .i64 (beN ((l.drop p).take m) : Nat)) ∧ RRd w' g l (p + m) n))
set_option maxHeartbeats 1000000 in
theorem rnum_walk (l : List UInt8) (g p n m : Nat) (w : World) (h : RRd w g l p n) (hm : m ≤ 4) :
    Calls Try.prog 76 #[.pointer (some ⟨g, 0, none⟩), .int .i64 m] w (RNumR g l p n m w) := by
  obtain ⟨h1, h2, h3, A, c, hc, hc2, hk, hr⟩ := h
  have HC0 : Hid (∀ q, (w.drewN q).cell? ⟨g, 0, none⟩ = some (.slice A l.length c)) := fun q => hk.cell 0
  have HC1 : Hid (∀ q, (w.drewN q).cell? ⟨g, 1, none⟩ = some (.int .i64 p)) := fun q => hk.cell 1
  have HC3 : Hid (∀ q, (w.drewN q).cell? ⟨g, 3, none⟩ = some (.int .i64 0)) := fun q => hk.cell 3
  have hc0 := HC0.out 0
  have hc1 := HC1.out 0
  have hc3 := HC3.out 0
  have hwr : True → IntKind.i64.wrap ((l.length : Int) - (p : Int)) = (l.length : Int) - (p : Int) := fun _ => by rw [IntKind.wrap_i64]; omega
  have hwp : True → wrap64 ((p : Int) + (m : Int)) = (p : Int) + (m : Int) := fun _ => by unfold wrap64; omega
  rw [World.drewN_zero] at hc0 hc1 hc3
  by_cases hs : l.length < p + m
  · have hd : decide ((l.length : Int) - (p : Int) < (m : Int)) = true := by simp; omega
    have hf := fun q => (hk.drewN q).frozen 3
    have HE : Hid (∀ q, Blk ((w.drewN q).setCell ⟨g, 3, none⟩ (.int .i64 1)) g 93 #[.slice A l.length c, .int .i64 (p : Int), .int .i64 (64 - (n : Int)), .int .i64 1]) := fun q => (hk.drewN q).set_ 3 (.int .i64 1)
    clear hk hr
    go_enter Try.func76, Try.ntmps76
    go_wp2_with fail
    go_quiet (fail)
    go_wp2_with fail
    have HE1 := HE.out nq
    have HG1 : Hid (w.grownBy ((w.drewN nq).setCell ⟨g, 3, none⟩ (.int .i64 1)) (some g)) := only_setCell (only_drewN (only_refl w _) nq) (.inl rfl) _
    generalize (w.drewN nq).setCell ⟨g, 3, none⟩ (.int .i64 1) = W at HE1 HG1 ⊢
    have e0 : W.cell? ⟨g, 0, none⟩ = some (.slice A l.length c) := HE1.cell 0
    have e1 : W.cell? ⟨g, 1, none⟩ = some (.int .i64 (p : Int)) := HE1.cell 1
    have e3 : W.cell? ⟨g, 3, none⟩ = some (.int .i64 1) := HE1.cell 3
    have ef := HE1.frozen 1
    have HF : Hid (Blk (W.setCell ⟨g, 1, none⟩ (.int .i64 ((p : Int) + (m : Int)))) g 93 #[.slice A l.length c, .int .i64 ((p : Int) + (m : Int)), .int .i64 (64 - (n : Int)), .int .i64 1]) := HE1.set_ 1 (.int .i64 ((p : Int) + (m : Int)))
    have HG2 : Hid (w.grownBy (W.setCell ⟨g, 1, none⟩ (.int .i64 ((p : Int) + (m : Int)))) (some g)) := only_setCell HG1.out (.inl rfl) _
    clear HE HE1 HG1
    go_loopw [5, 6] (fun vv iv wr => vv = .int .i64 0 ∧ iv = .int .i64 0 ∧ W = wr) (fun _ _ _ => 0)
    case atStart => exact ⟨rfl, rfl, rfl⟩
    case round =>
      obtain ⟨rfl, rfl, rfl⟩ := hrel
      go_wp2_with fail
      go_ret
      exact ⟨HG2.out, .inl ⟨hs, rfl, _, _, _, HF.out⟩⟩
  · have hd : decide ((l.length : Int) - (p : Int) < (m : Int)) = false := by simp; omega
    have HR : Hid (∀ q, Reads (w.drewN q) g 1 A l.length (Lib.byteCells l)) := fun q => hr
    have HK : Hid (∀ q, Blk (w.drewN q) g 93 #[.slice A l.length c, .int .i64 (p : Int), .int .i64 (64 - (n : Int)), .int .i64 0]) := fun q => hk
    have HS : Hid (∀ q, RRd ((w.drewN q).setCell ⟨g, 1, none⟩ (.int .i64 ((p : Int) + (m : Int)))) g l (p + m) n) := fun q => by
      refine ⟨h1, by omega, h3, A, c, hc, hc2, ?_, hr.setCell (Nat.le_refl _) _⟩
      have := (hk.drewN q).set_ 1 (.int .i64 ((p : Int) + (m : Int)))
      simpa using this
    clear hk hr
    obtain ⟨bl, hbl⟩ : ∃ bl, (l.drop p).take m = bl := ⟨_, rfl⟩
    have hlen : bl.length = m := by rw [← hbl, List.length_take, List.length_drop]; omega
    have HBL := Lib.hid hbl
    clear hbl
    go_enter Try.func76, Try.ntmps76
    go_wp2_with fail
    go_quiet (fail)
    go_wp2_with fail
    go_loopw [5, 6] (fun vv iv wr => ∃ i q : Nat, i ≤ m ∧ iv = .int .i64 i ∧ vv = .int .i64 (beN (bl.take i) : Nat) ∧ w.drewN q = wr) (fun _ iv _ => m - (intOf iv).toNat)
    case atStart => exact ⟨0, _, by omega, rfl, rfl, rfl⟩
    case round =>
      obtain ⟨i, q, hi, rfl, rfl, rfl⟩ := hrel
      have e0 := HC0.out q
      have e1 := HC1.out q
      have e3 := HC3.out q
      have ef := (HK.out q).frozen 1
      by_cases hlt : i < m
      · have hbi : Hid (bl[i]? = l[p + i]?) := by
          show _ = _
          rw [← HBL.out, List.getElem?_take, if_pos hlt, List.getElem?_drop]
        obtain ⟨b, o, x, rfl, hb, hcb, hx, HX⟩ := (HR.out q).byteN (k := p + i) (by omega)
        have hv1 := be3 (bl.take i) (by rw [List.length_take]; omega)
        have hnx : Hid (beN (bl.take (i + 1)) = beN (bl.take i) * 256 + x) := by
          show _ = _
          have hi2 : i < bl.length := by omega
          have hpi : p + i < l.length := by omega
          rw [List.take_add_one, List.getElem?_eq_getElem hi2]
          show beN (bl.take i ++ [bl[i]]) = _
          rw [beN_snoc]
          have h8 := HX.out
          have h9 := hbi.out
          rw [List.getElem?_eq_getElem hi2, List.getElem?_eq_getElem hpi] at h9
          injection h9 with h9
          rw [List.getD, List.getElem?_eq_getElem hpi] at h8
          simp at h8
          rw [h9, h8]
        obtain ⟨v, hv⟩ : ∃ v, beN (bl.take i) = v := ⟨_, rfl⟩
        rw [hv] at hv1 hnx ⊢
        have hcs := Lib.hid (show ((v * 256 + x : Nat) : Int) = (v : Int) * 256 + (x : Int) by omega)
        have hpi : True → IntKind.i64.wrap ((p : Int) + (i : Int)) = (p : Int) + (i : Int) := fun _ => by rw [IntKind.wrap_i64]; omega
        have z1 : (0 : Int) ≤ (p : Int) + (i : Int) := by omega
        have z2 : (p : Int) + (i : Int) < (l.length : Int) := by omega
        have z3 : ((p : Int) + (i : Int)).toNat = p + i := by omega
        have hv2 : True → IntKind.i64.wrap ((v : Int) * 256) = (v : Int) * 256 := fun _ => by rw [IntKind.wrap_i64]; omega
        have hv3 : True → IntKind.i64.wrap ((v : Int) * 256 + (x : Int)) = (v : Int) * 256 + (x : Int) := fun _ => by rw [IntKind.wrap_i64]; omega
        have hcw : w.cell? ⟨b, o + (p + i), none⟩ = some (.int .u8 (x : Int)) := hcb
        clear hv hv1
        go_wp2_with fail
        go_quiet (fail)
        go_wp2_with fail
        exact ⟨⟨i + 1, _, by omega, by go_num, by rw [hnx.out, hcs.out], rfl⟩, by simp [intOf]; omega⟩
      · obtain rfl : i = m := by omega
        rw [List.take_of_length_le (by omega)]
        go_wp2_with fail
        go_ret
        refine ⟨only_setCell (only_drewN (only_refl w _) q) (.inl rfl) _, .inr ⟨by omega, by rw [HBL.out]; rfl, HS.out q⟩⟩
end Go.Proofs.Ytekpdkjkkglcjaa

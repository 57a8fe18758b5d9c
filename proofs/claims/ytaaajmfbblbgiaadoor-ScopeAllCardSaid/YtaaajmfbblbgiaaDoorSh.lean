/- countersignlaw16.same and Scope (off the tape). No condition of its own. -/
import Derived.Test.YtaaajmfbblbgiaaDoorSg
import Derived.Test.YtaaajmfbblbgiaaDoorLt
set_option linter.unusedVariables false
set_option linter.unusedSimpArgs false
set_option maxRecDepth 20000
namespace Go.Proofs.YtaaajmfbblbgiaaDoor
open Go.RowKit
def rowsL1 : List ByteArray := [⟨#[111, 112, 101, 110, 105, 100]⟩, ⟨#[112, 114, 111, 102, 105, 108, 101]⟩, ⟨#[97]⟩, ⟨#[98]⟩]
def rowsL2 : List ByteArray := [⟨#[32]⟩, ⟨#[32]⟩, ⟨#[32]⟩, ⟨#[32, 32]⟩, ⟨#[9]⟩]
def rowsL3 : List ByteArray := [⟨#[111, 112, 101, 110, 105, 100]⟩, ⟨#[112, 114, 111, 102, 105, 108, 101]⟩, ⟨#[97]⟩, ⟨#[98]⟩, ⟨#[99]⟩, ⟨#[126]⟩, ⟨#[]⟩, ⟨#[34]⟩]
theorem getD_size {L : List ByteArray} {n : Nat} (h : ∀ x ∈ L, x.size ≤ n) (r : Nat) : (L.getD r ByteArray.empty).size ≤ n := by
  rw [List.getD_eq_getElem?_getD]
  cases e : L[r]? with
  | none => simp
  | some x => exact h x (List.mem_of_getElem? e)
def ScopeR (zs : List Int) (g : Nat) (w : World) (e : Ending) (w' : World) : Prop :=
  ∃ (s : ByteArray) (k : Nat), s.size ≤ 34 ∧ e = .returned (.string s) ∧ TapeAt w' g zs k ∧ w.grownBy w' (some g)
set_option maxHeartbeats 4000000 in
theorem scope_walk (zs : List Int) (g k : Nat) (w : World) (ht : TapeAt w g zs k) :
    Calls Tryd.prog 7 #[.pointer (some ⟨g, 0, none⟩)] w (ScopeR zs g w) := by
  have HT := Lib.hid ht
  have hgl := ht.lt
  clear ht
  go_enter Tryd.func7, Tryd.ntmps7
  go_wp2_with fail
  refine (pick_walk zs g k _ 4 (w.heap.size + 1) rowsL1 (by decide) (by decide) (by decide) _ ?ht ?hr ?hB ?hne).mono ?_
  case ht => exact HT.out.grown (only_alloc (only_refl _ none) _) (fun r e => by cases e)
  case hr => exact reads_row w 9 (rowsL1.map Value.string)
  case hB => simp
  case hne => intro p e; injection e with e; subst e; simp; omega
  have hx := getD_size (L := rowsL1) (n := 7) (by decide) (nextR zs k rowsL1.length).toNat
  generalize rowsL1.getD (nextR zs k rowsL1.length).toNat ByteArray.empty = x at hx
  rintro _ w2 ⟨rfl, ht2, hg2, hs2⟩
  generalize nextA zs k rowsL1.length = k2 at ht2
  have hG := Lib.hid (only_trans (only_alloc (only_refl w (some g)) _) hg2)
  have cn := Lib.hid (next_walk zs g k2 4 w2 ht2 (by omega))
  have hp := nextR_pos zs k2 4 (by omega)
  obtain ⟨r, er⟩ : ∃ r : Nat, nextR zs k2 4 = r := ⟨(nextR zs k2 4).toNat, by omega⟩
  rw [er] at cn hp
  clear ht2 hg2 hs2 HT er
  go_wp2_with fail
  refine cn.out.mono ?_
  rintro _ w3 ⟨rfl, ht3, hg3, hs3⟩
  generalize nextA zs k2 4 = k3 at ht3
  have HG := Lib.hid (only_trans hG.out hg3)
  have HT := Lib.hid ht3
  clear ht3 hg3 hs3 hG cn
  go_wp2_with fail
  go_loopw [3, 4] (fun sv nv wr => ∃ (i k : Nat) (s : ByteArray), i ≤ 3 ∧ nv = .int .i64 i ∧ sv = .string s ∧ s.size ≤ 7 + 9 * (3 - i) ∧ Hid (TapeAt wr g zs k) ∧ Hid (w.grownBy wr (some g))) (fun _ nv _ => (intOf nv).toNat)
  case atStart => exact ⟨r, k3, x, by omega, rfl, rfl, by omega, HT, HG⟩
  case round =>
    clear HT HG
    obtain ⟨i, k, s, hi, rfl, rfl, hs, hT, hG⟩ := hrel
    by_cases hlt : 0 < i
    · have hgl := hT.out.lt
      go_wp2_with fail
      refine (pick_walk zs g k _ 5 (wr.heap.size + 1) rowsL2 (by decide) (by decide) (by decide) _ ?ht ?hr ?hB ?hne).mono ?_
      case ht => exact hT.out.grown (only_alloc (only_refl _ none) _) (fun r e => by cases e)
      case hr => exact reads_row wr 9 (rowsL2.map Value.string)
      case hB => simp
      case hne => intro p e; injection e with e; subst e; simp; omega
      have hx := getD_size (L := rowsL2) (n := 2) (by decide) (nextR zs k rowsL2.length).toNat
      generalize rowsL2.getD (nextR zs k rowsL2.length).toNat ByteArray.empty = x at hx
      rintro _ w2 ⟨rfl, ht2, hg2, hs2⟩
      generalize nextA zs k rowsL2.length = k2 at ht2
      have HG2 := Lib.hid (only_trans hG.out (only_trans (only_alloc (only_refl wr (some g)) _) hg2))
      have HT2 := Lib.hid ht2
      have hgl2 := ht2.lt
      clear ht2 hg2 hs2 hT hG
      go_wp2_with fail
      refine (pick_walk zs g k2 _ 8 (w2.heap.size + 1) rowsL3 (by decide) (by decide) (by decide) _ ?ht2 ?hr2 ?hB2 ?hne2).mono ?_
      case ht2 => exact HT2.out.grown (only_alloc (only_refl _ none) _) (fun r e => by cases e)
      case hr2 => exact reads_row w2 9 (rowsL3.map Value.string)
      case hB2 => simp
      case hne2 => intro p e; injection e with e; subst e; simp; omega
      have hy := getD_size (L := rowsL3) (n := 7) (by decide) (nextR zs k2 rowsL3.length).toNat
      generalize rowsL3.getD (nextR zs k2 rowsL3.length).toNat ByteArray.empty = y at hy
      rintro _ w3 ⟨rfl, ht3, hg3, hs3⟩
      generalize nextA zs k2 rowsL3.length = k4 at ht3
      have HG3 := Lib.hid (only_trans HG2.out (only_trans (only_alloc (only_refl w2 (some g)) _) hg3))
      have HT3 := Lib.hid ht3
      clear ht3 hg3 hs3 HT2 HG2
      go_wp2_with fail
      exact ⟨⟨i - 1, k4, _, by omega, by go_num, rfl, by simp; omega, HT3, HG3⟩, by simp [intOf]; omega⟩
    · go_wp2_with fail
      go_ret
      exact ⟨s, k, by omega, rfl, hT.out, hG.out⟩
end Go.Proofs.YtaaajmfbblbgiaaDoor

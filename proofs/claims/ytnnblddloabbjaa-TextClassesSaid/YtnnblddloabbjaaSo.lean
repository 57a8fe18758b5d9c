import Derived.Test.YtnnblddloabbjaaLt
set_option linter.unusedVariables false
namespace Go.Proofs.Ytnnblddloabbjaa
open Go.RowKit
def someL : List ByteArray := [⟨#[97]⟩, ⟨#[90]⟩, ⟨#[48]⟩, ⟨#[45]⟩, ⟨#[126]⟩, ⟨#[32]⟩, ⟨#[195, 169]⟩, ⟨#[226, 130, 172]⟩, ⟨#[240, 159, 152, 128]⟩, ⟨#[239, 191, 189]⟩, ⟨#[255]⟩, ⟨#[195]⟩, ⟨#[226, 130]⟩, ⟨#[237, 160, 128]⟩, ⟨#[244, 144, 128, 128]⟩, ⟨#[192, 128]⟩, ⟨#[127]⟩, ⟨#[194, 133]⟩, ⟨#[194, 160]⟩, ⟨#[31]⟩, ⟨#[34]⟩, ⟨#[37]⟩, ⟨#[61]⟩, ⟨#[38]⟩, ⟨#[96]⟩, ⟨#[59]⟩, ⟨#[194, 161]⟩]
theorem someL_size (r : Nat) : (someL.getD r ByteArray.empty).size ≤ 4 := by
  have h : ∀ x ∈ someL, x.size ≤ 4 := by decide
  rw [List.getD_eq_getElem?_getD]
  cases e : someL[r]? with
  | none => simp
  | some x => exact h x (List.mem_of_getElem? e)
theorem tape_new {w : World} {A : Option Addr} {c : Nat} {zs : List Int} (hc : zs.length ≤ c) (hl : zs.length ≤ 9223372036854775807) (hz : ∀ z ∈ zs, -9223372036854775808 ≤ z ∧ z ≤ 9223372036854775807) (hr : Reads w w.heap.size 1 A zs.length (zs.map (Value.int .i64))) :
    TapeAt (w.alloc (.cells #[.slice A zs.length c, .int .i64 0] 39)) w.heap.size zs 0 :=
  ⟨Nat.zero_le _, hl, hz, A, c, hc, Blk.new _ _ _, hr.alloc (Nat.le_refl _) _⟩
/-- some text of at most so many bytes -/
def SomeStr (n : Nat) (w : World) (e : Ending) (w' : World) : Prop := ∃ s : ByteArray, s.size ≤ n ∧ e = .returned (.string s) ∧ Below w.heap.size w w'
set_option maxHeartbeats 1000000 in
theorem some_walk (zs : List Int) (A : Option Addr) (c : Nat) (most : Nat) (hm : most ≤ 1000) (hc : zs.length ≤ c) (hl : zs.length ≤ 9223372036854775807) (hz : ∀ z ∈ zs, -9223372036854775808 ≤ z ∧ z ≤ 9223372036854775807) (w : World) (hr : Reads w w.heap.size 1 A zs.length (zs.map (Value.int .i64))) :
    Calls Try.prog 9 #[.slice A zs.length c, .int .i64 most] w (SomeStr (4 * most) w) := by
  have hT := Lib.hid (tape_new hc hl hz hr)
  clear hr hz
  go_enter Try.func9, Try.ntmps9
  go_wp2_with fail
  go_loopw [6, 7] (fun sv nv wr => ∃ (i k : Nat) (s : ByteArray), i ≤ most ∧ nv = .int .i64 i ∧ sv = .string s ∧ s.size ≤ 4 * i ∧ Hid (TapeAt wr w.heap.size zs k) ∧ Below w.heap.size w wr) (fun _ nv _ => most - (intOf nv).toNat)
  case atStart => exact ⟨0, 0, ByteArray.empty, by omega, rfl, rfl, by simp, hT, (Below.refl _ _).alloc (Nat.le_refl _) _⟩
  case round =>
    obtain ⟨i, k, s, hi, rfl, rfl, hs, ht, hb⟩ := hrel
    have cm := Lib.hid (more_walk zs w.heap.size k wr ht.out)
    by_cases hlt : i < most
    · by_cases hk : k < zs.length
      · rw [show decide (k < zs.length) = true by simpa using hk] at cm
        go_wp2_with fail
        refine cm.out.mono ?_
        rintro _ w1 ⟨rfl, q, rfl⟩
        go_wp2_with fail
        have hgl := ht.out.lt
        refine (pick_walk zs w.heap.size k _ 27 (wr.heap.size + 1) someL (by decide) (by decide) (by decide) _ ?ht ?hr ?hB ?hne).mono ?_
        case ht => exact (ht.out.drewN q).grown (only_alloc (only_refl _ none) _) (fun r e => by cases e)
        case hr => exact reads_row (wr.drewN q) 9 (someL.map Value.string)
        case hB => simp
        case hne => intro p e; injection e with e; subst e; simp; omega
        have hx := someL_size (nextR zs k someL.length).toNat
        generalize someL.getD (nextR zs k someL.length).toNat ByteArray.empty = x at hx
        rintro _ w2 ⟨rfl, ht2, hg2, hs2⟩
        have HT := Lib.hid ht2
        have hb2 : Below w.heap.size w w2 := (((below_drewN hb q).alloc (by have := hb.size; simp; omega) _).grown hg2 (by have := hb.size; simp; omega) (fun r e => by injection e with e; omega))
        clear ht2 hg2 hs2 hgl
        go_wp2_with fail
        exact ⟨⟨i + 1, _, _, by omega, by go_num, rfl, by simp; omega, HT, hb2⟩, by simp [intOf]; omega⟩
      · rw [show decide (k < zs.length) = false by simpa using hk] at cm
        go_wp2_with fail
        refine cm.out.mono ?_
        rintro _ w1 ⟨rfl, q, rfl⟩
        go_wp2_with fail
        go_ret
        exact ⟨s, by omega, rfl, below_drewN hb q⟩
    · go_wp2_with fail
      go_ret
      exact ⟨s, by omega, rfl, hb⟩
end Go.Proofs.Ytnnblddloabbjaa

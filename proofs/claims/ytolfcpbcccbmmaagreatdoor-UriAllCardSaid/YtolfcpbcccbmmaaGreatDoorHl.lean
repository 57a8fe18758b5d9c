/- countersignlaw10.Text. No condition of its own. -/
import Derived.Test.YtolfcpbcccbmmaaGreatDoorHk
import Derived.Test.YtolfcpbcccbmmaaGreatDoorIw
set_option linter.unusedVariables false
set_option linter.unusedSimpArgs false
set_option maxRecDepth 20000
namespace Go.Proofs.YtolfcpbcccbmmaaGreatDoor
open Go.RowKit Pc
theorem tape_new {w : World} {A : Option Addr} {c : Nat} {zs : List Int} (h : IntsIn w A c zs) :
    TapeAt (w.alloc (.cells #[.slice A zs.length c, .int .i64 0] 41)) w.heap.size zs 0 :=
  ⟨Nat.zero_le _, h.2.1, h.2.2.1, A, c, h.1, Blk.new _ _ _, h.2.2.2.alloc (Nat.le_refl _) _⟩
def textL : List ByteArray := [⟨#[97]⟩, ⟨#[98]⟩, ⟨#[61]⟩, ⟨#[61, 49]⟩, ⟨#[38]⟩, ⟨#[38, 97, 61]⟩, ⟨#[99, 61, 50]⟩, ⟨#[37, 50, 48]⟩, ⟨#[43]⟩, ⟨#[37, 50, 70]⟩, ⟨#[37, 50, 102]⟩, ⟨#[126]⟩, ⟨#[38, 100, 61, 52]⟩, ⟨#[38, 38]⟩, ⟨#[101]⟩, ⟨#[37]⟩]
def nameL : List ByteArray := [⟨#[97]⟩, ⟨#[98]⟩, ⟨#[99, 111, 100, 101]⟩, ⟨#[115, 116, 97, 116, 101]⟩, ⟨#[120, 32, 121]⟩, ⟨#[195, 169]⟩, ⟨#[61]⟩, ⟨#[38]⟩, ⟨#[126]⟩]
def valL : List ByteArray := [⟨#[]⟩, ⟨#[49]⟩, ⟨#[97, 32, 98]⟩, ⟨#[126, 65, 103, 65, 65, 65, 65, 69, 126]⟩, ⟨#[37]⟩, ⟨#[43]⟩, ⟨#[0]⟩, ⟨#[104, 116, 116, 112, 115, 58, 47, 47, 99, 49, 47, 99, 98]⟩]
theorem getD_size {L : List ByteArray} {n : Nat} (h : ∀ x ∈ L, x.size ≤ n) (r : Nat) : (L.getD r ByteArray.empty).size ≤ n := by
  rw [List.getD_eq_getElem?_getD]
  cases e : L[r]? with
  | none => simp
  | some x => exact h x (List.mem_of_getElem? e)
theorem getD_mem {L : List ByteArray} {r : Nat} (h : r < L.length) : L.getD r ByteArray.empty ∈ L := by
  rw [List.getD_eq_getElem?_getD, List.getElem?_eq_getElem h]
  exact List.getElem_mem h
set_option maxHeartbeats 4000000 in
theorem text_walk (zs : List Int) (A : Option Addr) (c : Nat) (most : Nat) (hm : most ≤ 1000) (w : World) (hr : IntsIn w A c zs) :
    Calls Tryz.prog 19 #[.slice A zs.length c, .int .i64 most] w fun e w' => ∃ s : ByteArray, s.size ≤ 4 * most ∧ e = .returned (.string s) ∧ Below w.heap.size w w' := by
  have HT := Lib.hid (tape_new hr)
  clear hr
  go_enter Tryz.func19, Tryz.ntmps19
  go_wp2_with fail
  go_loopw [6, 7] (fun sv nv wr => ∃ (i k : Nat) (s : ByteArray), i ≤ most ∧ nv = .int .i64 i ∧ sv = .string s ∧ s.size ≤ 4 * i ∧ Hid (TapeAt wr w.heap.size zs k) ∧ Hid (Below w.heap.size w wr)) (fun _ nv _ => most - (intOf nv).toNat)
  case atStart => exact ⟨0, 0, ⟨#[]⟩, by omega, rfl, rfl, by decide, HT, (Below.refl _ _).alloc (Nat.le_refl _) _⟩
  case round =>
    clear HT
    obtain ⟨i, k, s, hi, rfl, rfl, hs, hT, hB⟩ := hrel
    have cm := Lib.hid (more_walk zs w.heap.size k wr hT.out)
    by_cases hlt : i < most
    · by_cases hk : k < zs.length
      · rw [show decide (k < zs.length) = true by simpa using hk] at cm
        have hgl := hT.out.lt
        go_wp2_with fail
        refine cm.out.mono ?_
        rintro _ w1 ⟨rfl, q, rfl⟩
        go_wp2_with fail
        refine (pick_walk zs w.heap.size k _ 16 ((wr.drewN q).heap.size + 1) textL (by decide) (by decide) (by decide) _ ?ht ?hr ?hB ?hne).mono ?_
        case ht => exact (hT.out.drewN q).grown (only_alloc (only_refl _ none) _) (fun r e => by cases e)
        case hr => exact reads_row (wr.drewN q) 9 (textL.map Value.string)
        case hB => simp
        case hne => intro p e; injection e with e; subst e; simp; omega
        have hx := getD_size (L := textL) (n := 4) (by decide) (nextR zs k textL.length).toNat
        generalize textL.getD (nextR zs k textL.length).toNat ByteArray.empty = x at hx
        rintro _ w2 ⟨rfl, ht2, hg2, hs2⟩
        generalize nextA zs k textL.length = k2 at ht2
        have HB2 := Lib.hid (((below_drewN hB.out q).alloc hB.out.size _).grown hg2 (by have := hB.out.size; simp; omega) (fun r e => by injection e with e; omega))
        have HT2 := Lib.hid ht2
        clear ht2 hg2 hs2 hT hB cm
        go_wp2_with fail
        exact ⟨⟨i + 1, k2, _, by omega, by go_num, rfl, by rw [ByteArray.size_append]; omega, HT2, HB2⟩, by simp [intOf]; omega⟩
      · rw [show decide (k < zs.length) = false by simpa using hk] at cm
        go_wp2_with fail
        refine cm.out.mono ?_
        rintro _ w1 ⟨rfl, q, rfl⟩
        go_wp2_with fail
        go_ret
        exact ⟨s, by omega, rfl, below_drewN hB.out q⟩
    · go_wp2_with fail
      go_ret
      exact ⟨s, by omega, rfl, hB.out⟩
end Go.Proofs.YtolfcpbcccbmmaaGreatDoor

import Derived.Test.YtnnblddloabbjaaYa
import Derived.Test.YtnnblddloabbjaaTy
import Derived.Lib.MinMax
set_option linter.unusedVariables false
namespace Go.Proofs.Ytnnblddloabbjaa
open Go.RowKit Tx
theorem widths_len {s : ByteArray} {l : List UInt8} (hs : s.data.toList = l) (n : Int) : widths l n ≤ s.size := by
  unfold widths
  exact posAt_le hs (Nat.min_le_right _ _)
theorem clip_list {s : ByteArray} {l : List UInt8} (hs : s.data.toList = l) (n : Int) : (s.extract 0 (widths l n)).data.toList = l.take (widths l n) := by
  rw [Lib.extract_data, hs]; simp
theorem clip_size {s : ByteArray} {l : List UInt8} (hs : s.data.toList = l) (n : Int) : (s.extract 0 (widths l n)).size = widths l n := by
  have := widths_len hs n
  simp; omega
theorem clip_front {s : ByteArray} {l : List UInt8} (hs : s.data.toList = l) (n : Int) {m : Nat} (hm : m ≤ widths l n) : (s.extract 0 (widths l n)).extract 0 m = s.extract 0 m := by
  apply str_eq
  rw [Lib.extract_data, Lib.extract_data, Lib.extract_data, hs]
  simp [List.take_take, Nat.min_eq_left hm]
theorem clip_runes (l : List UInt8) (a : Int) : (runes (l.take (widths l a))).length = min a.toNat (runes l).length := by
  unfold widths
  rw [(posAt_take _ l (Nat.min_le_right _ _)).2, List.length_take]
  omega
theorem clip_clip (l : List UInt8) (a b : Int) (ha : 0 ≤ a) (hb : 0 ≤ b) : widths (l.take (widths l a)) b = widths l (min a b) := by
  have h := clip_runes l a
  rw [widths, h]
  have h2 := (posAt_take (min a.toNat (runes l).length) l (Nat.min_le_right _ _)).1
  rw [show widths l a = posAt l (min a.toNat (runes l).length) from rfl, h2, widths]
  congr 1
  omega
theorem clip_le (l : List UInt8) (a b : Int) (ha : 0 ≤ a) (hb : 0 ≤ b) : widths (l.take (widths l a)) b ≤ widths l a := by
  have h1 := widths_len (s := ⟨(l.take (widths l a)).toArray⟩) (l := l.take (widths l a)) (by simp) b
  have h2 : (ByteArray.mk (l.take (widths l a)).toArray).size = min (widths l a) l.length := by simp [ByteArray.size]
  omega
theorem clip_none (s : ByteArray) (l : List UInt8) (a : Int) (ha : a < 0) : s.extract 0 (widths l a) = ⟨#[]⟩ := by
  rw [widths, show min a.toNat (runes l).length = 0 by omega, posAt]
  apply str_eq
  rw [Lib.extract_data]
  rfl
theorem clip_all {s : ByteArray} {l : List UInt8} (hs : s.data.toList = l) : s.extract 0 (widths l ((runes l).length : Nat)) = s := by
  rw [widths, show min (((runes l).length : Nat) : Int).toNat (runes l).length = (runes l).length by omega, posAt_all]
  exact str_eq (by rw [Lib.extract_data, hs]; simp)
set_option maxHeartbeats 2000000 in
set_option maxRecDepth 100000 in
theorem textClip_walk (raw : ByteArray) (A : Option Addr) (c : Nat) (zs : List Int) (n m : Int) (w : World) (hr : IntsIn w A c zs) (hm : raw.size ≤ 9223372036854775807) (hn : -9223372036854775808 ≤ n ∧ n ≤ 9223372036854775807) (hmm : -9223372036854775808 ≤ m ∧ m ≤ 9223372036854775807) :
    Calls Try.prog 6 #[.string raw, .slice A zs.length c, .int .i64 n, .int .i64 m] w fun e w' => e = .returned (.bool true) ∧ Below w.heap.size w w' := by
  have HR := Lib.hid hr
  have HN := Lib.hid hn
  have HM := Lib.hid hmm
  clear hr hn hmm
  have hb := Below.refl w.heap.size w
  by_cases h2 : 200 < raw.size
  · go_enter Try.func6, Try.ntmps6
    go_wp2_with fail
    refine (known6_walk _).mono ?_
    rintro _ w1 ⟨rfl, hbn⟩
    replace hb := below_next hb hbn
    clear hbn
    go_wp2_with fail
    go_ret
    exact ⟨rfl, hb⟩
  · obtain ⟨a, ea, ha0, ha1⟩ : ∃ a : Int, Hid (n % 50 = a) ∧ 0 ≤ a ∧ a < 50 := ⟨n % 50, rfl, by omega, by omega⟩
    obtain ⟨b, eb, hb0, hb1⟩ : ∃ b : Int, Hid (m % 50 = b) ∧ 0 ≤ b ∧ b < 50 := ⟨m % 50, rfl, by omega, by omega⟩
    have cA := Lib.hid (fun w => within6_walk n 50 w (by omega) (by omega) HN.out)
    have cB := Lib.hid (fun w => within6_walk m 50 w (by omega) (by omega) HM.out)
    rw [ea.out] at cA
    rw [eb.out] at cB
    go_enter Try.func6, Try.ntmps6
    go_wp2_with fail
    refine (known6_walk _).mono ?_
    rintro _ w1 ⟨rfl, hbn⟩
    replace hb := below_next hb hbn
    clear hbn
    go_wp2_with fail
    refine (some_in 30 (by omega) (HR.out.below hb)).mono ?_
    rintro _ w1 ⟨s1, hs1, rfl, hbn⟩
    replace hb := below_next hb hbn
    clear hbn
    obtain ⟨s, es, hsz⟩ : ∃ s : ByteArray, s1 ++ raw = s ∧ s.size ≤ 1000000 := ⟨_, rfl, by simp; omega⟩
    obtain ⟨l, hl⟩ : ∃ l, s.data.toList = l := ⟨_, rfl⟩
    obtain ⟨R, hR⟩ : ∃ R : Nat, (runes l).length = R := ⟨_, rfl⟩
    have hRl : R ≤ 1000000 := by have := runes_le l; have : l.length = s.size := by rw [← hl, Lib.size_eq]
                                 omega
    obtain ⟨x, hx⟩ : ∃ x, s.extract 0 (widths l a) = x := ⟨_, rfl⟩
    have hxl : x.data.toList = l.take (widths l a) := by rw [← hx]; exact clip_list hl a
    have hxs : x.size = widths l a := by rw [← hx]; exact clip_size hl a
    have hxw := widths_len hl a
    have hxx : x.size ≤ s.size := by omega
    have hE : s.extract 0 x.size = x := by rw [hxs]; exact hx
    have cx := Lib.hid (fun w => clip_walk s l hl a w hsz (by omega))
    rw [hx] at cx
    have cr := Lib.hid (fun w => runes_walk s l hl w hsz)
    rw [hR] at cr
    have crx := Lib.hid (fun w => runes_walk x _ hxl w (by omega))
    rw [clip_runes, hR] at crx
    have cy := Lib.hid (fun w => clip_walk x _ hxl b w (by omega) (by omega))
    rw [clip_clip l a b ha0 hb0] at cy
    have hyw : widths l (min a b) ≤ widths l a := by rw [← clip_clip l a b ha0 hb0]; exact clip_le l a b ha0 hb0
    have hy := clip_front hl a hyw
    rw [hx] at hy
    rw [hy] at cy
    have cy2 := Lib.hid (fun w => clip_walk s l hl (min a b) w hsz (by omega))
    have c0 := Lib.hid (fun w => clip_walk s l hl (-1 - a) w hsz (by omega))
    rw [clip_none s l (-1 - a) (by omega)] at c0
    have call := Lib.hid (fun w => clip_walk s l hl ((runes l).length : Nat) w hsz (by omega))
    rw [clip_all hl, hR] at call
    obtain ⟨y, hy2⟩ : ∃ y, s.extract 0 (widths l (min a b)) = y := ⟨_, rfl⟩
    rw [hy2] at cy cy2
    obtain ⟨k, hk⟩ : ∃ k : Int, min a (R : Int) = k := ⟨_, rfl⟩
    obtain ⟨m, hm2⟩ : ∃ m : Int, min a b = m := ⟨_, rfl⟩
    rw [show ((min a.toNat R : Nat) : Int) = k by omega] at crx
    rw [hm2] at cy2
    clear hl hR hx hxl hxs hxw hyw hy hy2
    go_wp2_with fail
    refine (cA.out _).mono ?_
    rintro _ w1 ⟨rfl, rfl⟩
    go_wp2_with fail
    refine (cB.out _).mono ?_
    rintro _ w1 ⟨rfl, rfl⟩
    go_wp2_with fail
    refine (cx.out _).mono ?_
    rintro _ w1 ⟨rfl, hbn⟩
    replace hb := below_next hb hbn
    clear hbn
    go_wp2_with fail
    refine (crx.out _).mono ?_
    rintro _ w1 ⟨rfl, hbn⟩
    replace hb := below_next hb hbn
    clear hbn
    go_wp2_with fail
    refine (cr.out _).mono ?_
    rintro _ w1 ⟨rfl, hbn⟩
    replace hb := below_next hb hbn
    clear hbn
    go_wp2_with fail
    refine (cy.out _).mono ?_
    rintro _ w1 ⟨rfl, hbn⟩
    replace hb := below_next hb hbn
    clear hbn
    go_wp2_with fail
    refine (cy2.out _).mono ?_
    rintro _ w1 ⟨rfl, hbn⟩
    replace hb := below_next hb hbn
    clear hbn
    go_wp2_with fail
    refine (c0.out _).mono ?_
    rintro _ w1 ⟨rfl, hbn⟩
    replace hb := below_next hb hbn
    clear hbn
    go_wp2_with fail
    refine (cr.out _).mono ?_
    rintro _ w1 ⟨rfl, hbn⟩
    replace hb := below_next hb hbn
    clear hbn
    go_wp2_with fail
    refine (call.out _).mono ?_
    rintro _ w1 ⟨rfl, hbn⟩
    replace hb := below_next hb hbn
    clear hbn
    go_wp2_with fail
    go_ret
    exact ⟨rfl, hb⟩
end Go.Proofs.Ytnnblddloabbjaa

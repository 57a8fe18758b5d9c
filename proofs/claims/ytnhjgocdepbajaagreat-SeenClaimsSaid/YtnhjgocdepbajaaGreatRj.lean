import Derived.Test.YtnhjgocdepbajaaGreatRh
import Derived.Test.YtnhjgocdepbajaaGreatRi
set_option linter.unusedVariables false
set_option linter.unusedSimpArgs false
set_option maxRecDepth 20000
namespace Go.Proofs.YtnhjgocdepbajaaGreat
open Go.RowKit Tx
theorem first_all (s : ByteArray) (w : World) (h0 : 0 < s.size) (hm : s.size ≤ 1000000) (c : Nat) (ec : (s[0]'h0).toNat = c) (hc2 : c < 256) (a b d : Int) (Q : Hid (MoreIs s a b d)) (ha1 : -1 ≤ a) (ha2 : a < 64) (hb1 : -1 ≤ b) (hb2 : b < 64) (hd1 : -1 ≤ d) (hd2 : d < 64) :
  Calls Tryz.prog 113 #[.string s] w (FP c a b d w) := by
 by_cases k0 : c < 128
 ·
  exact first_0 s w h0 hm c ec hc2 a b d Q ha1 ha2 hb1 hb2 hd1 hd2 k0
 by_cases k1 : c < 194
 ·
  exact first_1 s w h0 hm c ec hc2 a b d Q ha1 ha2 hb1 hb2 hd1 hd2 (by omega) k1
 by_cases k2 : c < 224
 ·
  by_cases z : 0 ≤ a
  ·
   exact first_2 s w h0 hm c ec hc2 a b d Q ha1 ha2 hb1 hb2 hd1 hd2 (by omega) k2 z
  ·
   exact first_3 s w h0 hm c ec hc2 a b d Q ha1 ha2 hb1 hb2 hd1 hd2 (by omega) k2 (by omega)
 by_cases k3 : c < 240
 ·
  by_cases z : 0 ≤ a
  ·
   by_cases y : 0 ≤ b
   ·
    by_cases r1 : ((c : Int) - 224) * 4096 + a * 64 + b < 2048
    ·
     exact first_6 s w h0 hm c ec hc2 a b d Q ha1 ha2 hb1 hb2 hd1 hd2 _ rfl (by omega) k3 z y r1
    by_cases r2 : ((c : Int) - 224) * 4096 + a * 64 + b < 55296
    ·
     exact first_7 s w h0 hm c ec hc2 a b d Q ha1 ha2 hb1 hb2 hd1 hd2 _ rfl (by omega) k3 z y (by omega) r2
    by_cases r3 : ((c : Int) - 224) * 4096 + a * 64 + b ≤ 57343
    ·
     exact first_8 s w h0 hm c ec hc2 a b d Q ha1 ha2 hb1 hb2 hd1 hd2 _ rfl (by omega) k3 z y (by omega) (by omega) r3
    ·
     exact first_9 s w h0 hm c ec hc2 a b d Q ha1 ha2 hb1 hb2 hd1 hd2 _ rfl (by omega) k3 z y (by omega) (by omega) (by omega)
   ·
    exact first_5 s w h0 hm c ec hc2 a b d Q ha1 ha2 hb1 hb2 hd1 hd2 (by omega) k3 z (by omega)
  ·
   exact first_4 s w h0 hm c ec hc2 a b d Q ha1 ha2 hb1 hb2 hd1 hd2 (by omega) k3 (by omega)
 by_cases k4 : c < 245
 ·
  by_cases z : 0 ≤ a
  ·
   by_cases y : 0 ≤ b
   ·
    by_cases x : 0 ≤ d
    ·
     by_cases r1 : ((c : Int) - 240) * 262144 + a * 4096 + b * 64 + d < 65536
     ·
      exact first_13 s w h0 hm c ec hc2 a b d Q ha1 ha2 hb1 hb2 hd1 hd2 _ rfl (by omega) k4 z y x r1
     by_cases r2 : ((c : Int) - 240) * 262144 + a * 4096 + b * 64 + d ≤ 1114111
     ·
      exact first_14 s w h0 hm c ec hc2 a b d Q ha1 ha2 hb1 hb2 hd1 hd2 _ rfl (by omega) k4 z y x (by omega) r2
     ·
      exact first_15 s w h0 hm c ec hc2 a b d Q ha1 ha2 hb1 hb2 hd1 hd2 _ rfl (by omega) k4 z y x (by omega) (by omega)
    ·
     exact first_12 s w h0 hm c ec hc2 a b d Q ha1 ha2 hb1 hb2 hd1 hd2 (by omega) k4 z y (by omega)
   ·
    exact first_11 s w h0 hm c ec hc2 a b d Q ha1 ha2 hb1 hb2 hd1 hd2 (by omega) k4 z (by omega)
  ·
   exact first_10 s w h0 hm c ec hc2 a b d Q ha1 ha2 hb1 hb2 hd1 hd2 (by omega) k4 (by omega)
 ·
  exact first_16 s w h0 hm c ec hc2 a b d Q ha1 ha2 hb1 hb2 hd1 hd2 (by omega)
theorem rfirst_walk (s : ByteArray) (l : List UInt8) (hs : s.data.toList = l) (w : World) (h0 : 0 < s.size) (hm : s.size ≤ 1000000) :
  Calls Tryz.prog 113 #[.string s] w fun e w' => e = .returned (.tuple #[.int .i64 ((dc l).1 : Int), .int .i64 ((dc l).2 : Int)]) ∧ Below w.heap.size w w' := by
 have m1 := moreI_le l 1
 have m2 := moreI_le l 2
 have m3 := moreI_le l 3
 have e := rfI_dc l
 refine (first_all s w h0 hm (bt l 0) (str_bt hs h0) (bt_lt l 0) (moreI l 1) (moreI l 2) (moreI l 3) ⟨fun w => rmore_walk s l hs 1 (by omega) w hm, fun w => rmore_walk s l hs 2 (by omega) w hm, fun w => rmore_walk s l hs 3 (by omega) w hm⟩ m1.1 m1.2 m2.1 m2.2 m3.1 m3.2).mono ?_
 rintro _ w' ⟨hb, rfl⟩
 rw [e]
 exact ⟨rfl, hb⟩
theorem front_more {s : ByteArray} {l : List UInt8} {k : Nat} (hs : s.data.toList = l) (hk : k ≤ (runes l).length) (hm : s.size ≤ 1000000) (hlt : posAt l k < s.size) :
  ∃ r n : Nat, (runes l)[k]? = some (dc (l.drop (posAt l k))) ∧ (dc (l.drop (posAt l k))).1 = r ∧ (dc (l.drop (posAt l k))).2 = n ∧ r ≤ 2147483647 ∧ 1 ≤ n ∧ posAt l k + n ≤ s.size ∧ k + 1 ≤ (runes l).length ∧ posAt l (k + 1) = posAt l k + n ∧
   ∀ w, Calls Tryz.prog 113 #[.string (s.extract (posAt l k) s.size)] w fun e w' => e = .returned (.tuple #[.int .i64 (r : Int), .int .i64 (n : Int)]) ∧ Below w.heap.size w w' := by
 have hsz : s.size = l.length := by rw [← hs, Lib.size_eq]
 obtain ⟨h1, h2, h3, h4⟩ := posAt_spec k l hk
 obtain ⟨q1, q2, q3⟩ := h3 (by omega)
 refine ⟨_, _, q2, rfl, rfl, ?_, dc_pos _, ?_, by omega, q3, fun w => ?_⟩
 ·
  have := decode_le s (posAt l k)
  rwa [decode_dc s _ (by omega), hs] at this
 ·
  have := dc_le (l.drop (posAt l k)) (by intro e; have := congrArg List.length e; simp at this; omega)
  simp at this; omega
 ·
  refine rfirst_walk _ _ ?_ w ?_ ?_
  ·
   rw [Lib.extract_to_end, hs]
  ·
   simp; omega
  ·
   simp; omega
theorem front_end {s : ByteArray} {l : List UInt8} {k : Nat} (hs : s.data.toList = l) (hk : k ≤ (runes l).length) (hge : ¬ posAt l k < s.size) : k = (runes l).length := by
 have hsz : s.size = l.length := by rw [← hs, Lib.size_eq]
 obtain ⟨h1, h2, h3, h4⟩ := posAt_spec k l hk
 exact h4 (by omega)
set_option maxHeartbeats 1000000 in
theorem rvalid_walk (s : ByteArray) (l : List UInt8) (hs : s.data.toList = l) (w : World) (hm : s.size ≤ 1000000) :
  Calls Tryz.prog 93 #[.string s] w fun e w' => e = .returned (.bool (validL l)) ∧ Below w.heap.size w w' := by
 have hrl := runes_le l
 have hsz : l.length = s.size := by rw [← hs, Lib.size_eq]
 go_enter Tryz.func93, Tryz.ntmps93
 go_wp2_with fail
 go_loopg [3] ((runes l).length) (fun q iv wr => ∃ k p : Nat, k + q = (runes l).length ∧ iv = .int .i64 p ∧ p ≤ s.size ∧ Hid (posAt l k = p) ∧ Hid (∀ j x, j < k → (runes l)[j]? = some x → x.1 ≠ 65533) ∧ Below w.heap.size w wr)
 case atStart => exact ⟨0, 0, by omega, rfl, by omega, rfl, fun j x hj => by omega, Below.refl _ _⟩
 case round =>
  obtain ⟨k, p, hk, rfl, hp, HP, hno, hbl⟩ := hrel
  by_cases hlt : p < s.size
  ·
   obtain ⟨r, n, hr1, hr2, hn2, hr3, hn1, hpn, hk2, hp2, hc⟩ := front_more (k := k) hs (by omega) hm (by rw [HP.out]; exact hlt)
   by_cases hr : r = 65533
   ·
    have hv := Lib.hid (valid_no hr1 hr2 hr)
    have hb : ((r : Int) == 65533) = true := by rw [beq_iff_eq]; omega
    rw [HP.out] at hc hp2 hpn
    have HC := Lib.hid hc
    clear hr1 hr2 hn2 hc hp2 HP hr
    go_wp2_with fail
    refine (HC.out _).mono ?_
    rintro _ w1 ⟨rfl, hb1⟩
    go_wp2_with fail
    go_ret
    exact ⟨by rw [hv.out]; rfl, hbl.trans (hb1.mono hbl.size)⟩
   ·
    have hb : ((r : Int) == 65533) = false := by rw [beq_eq_false_iff_ne]; omega
    have HN := Lib.hid (upto_succ (p := fun x => x ≠ 65533) hno.out hr1 hr2 hr)
    rw [HP.out] at hc hp2 hpn
    have HC := Lib.hid hc
    have HP2 := Lib.hid hp2
    clear hr1 hr2 hn2 hc hp2 HP hr
    go_wp2_with fail
    refine (HC.out _).mono ?_
    rintro _ w1 ⟨rfl, hb1⟩
    go_wp2_with fail
    go_roundg (gk - 1)
    case rel => exact ⟨k + 1, p + n, by omega, by go_num, by omega, HP2, HN, hbl.trans (hb1.mono hbl.size)⟩
    case measure => omega
  ·
   have hke := front_end hs (k := k) (by omega) (by rw [HP.out]; exact hlt)
   have hv := Lib.hid (valid_yes (fun j x hj => hno.out j x (by omega)))
   clear hke
   go_wp2_with fail
   go_ret
   exact ⟨by rw [hv.out]; rfl, hbl⟩
end Go.Proofs.YtnhjgocdepbajaaGreat

import Derived.Test.YtnhjgocdepbajaaGreatRg
set_option linter.unusedVariables false
set_option linter.unusedSimpArgs false
set_option maxRecDepth 20000
set_option maxHeartbeats 4000000
namespace Go.Proofs.YtnhjgocdepbajaaGreat
open Go.RowKit Tx
set_option maxRecDepth 100000 in
theorem first_13 (s : ByteArray) (w : World) (h0 : 0 < s.size) (hm : s.size ≤ 1000000) (c : Nat) (ec : (s[0]'h0).toNat = c) (hc2 : c < 256) (a b d : Int) (Q : Hid (MoreIs s a b d)) (ha1 : -1 ≤ a) (ha2 : a < 64) (hb1 : -1 ≤ b) (hb2 : b < 64) (hd1 : -1 ≤ d) (hd2 : d < 64) (r : Int) (hr : ((c : Int) - 240) * 262144 + a * 4096 + b * 64 + d = r) (k0 : 240 ≤ c) (k1 : c < 245) (k2 : 0 ≤ a) (k3 : 0 ≤ b) (k4 : 0 ≤ d) (k5 : r < 65536) :
  Calls Tryz.prog 113 #[.string s] w (FP c a b d w) := by
 have hv : Hid (rfI c a b d = (65533, 1)) := by
  show _ = _
  simp only [rfI]
  repeat' split
  all_goals first | rfl | (exfalso; omega) | (refine Prod.ext ?_ ?_ <;> simp <;> omega)
 have z0 : ¬ ((c : Int) < 128) := by omega
 have z1 : ¬ ((c : Int) < 224) := by omega
 have z2 : ¬ ((c : Int) < 240) := by omega
 have z3 : (194 : Int) ≤ c := by omega
 have z4 : (224 : Int) ≤ c := by omega
 have z5 : (240 : Int) ≤ c := by omega
 have z6 : (c : Int) < 245 := by omega
 go_enter Tryz.func113, Tryz.ntmps113
 go_wp2_with fail
 refine (Q.out.1 _).mono ?_
 rintro _ w1 ⟨rfl, rfl⟩
 go_wp2_with fail
 refine (Q.out.2.1 _).mono ?_
 rintro _ w1 ⟨rfl, rfl⟩
 go_wp2_with fail
 refine (Q.out.2.2 _).mono ?_
 rintro _ w1 ⟨rfl, rfl⟩
 clear Q
 go_wp2_with fail
 go_ret2
 exact ⟨Below.refl _ _, by rw [hv.out]; rfl⟩
set_option maxRecDepth 100000 in
theorem first_14 (s : ByteArray) (w : World) (h0 : 0 < s.size) (hm : s.size ≤ 1000000) (c : Nat) (ec : (s[0]'h0).toNat = c) (hc2 : c < 256) (a b d : Int) (Q : Hid (MoreIs s a b d)) (ha1 : -1 ≤ a) (ha2 : a < 64) (hb1 : -1 ≤ b) (hb2 : b < 64) (hd1 : -1 ≤ d) (hd2 : d < 64) (r : Int) (hr : ((c : Int) - 240) * 262144 + a * 4096 + b * 64 + d = r) (k0 : 240 ≤ c) (k1 : c < 245) (k2 : 0 ≤ a) (k3 : 0 ≤ b) (k4 : 0 ≤ d) (k5 : 65536 ≤ r) (k6 : r ≤ 1114111) :
  Calls Tryz.prog 113 #[.string s] w (FP c a b d w) := by
 have hv : Hid (rfI c a b d = (r, 4)) := by
  show _ = _
  simp only [rfI]
  repeat' split
  all_goals first | rfl | (exfalso; omega) | (refine Prod.ext ?_ ?_ <;> simp <;> omega)
 have z0 : ¬ ((c : Int) < 128) := by omega
 have z1 : ¬ ((c : Int) < 224) := by omega
 have z2 : ¬ ((c : Int) < 240) := by omega
 have z3 : (194 : Int) ≤ c := by omega
 have z4 : (224 : Int) ≤ c := by omega
 have z5 : (240 : Int) ≤ c := by omega
 have z6 : (c : Int) < 245 := by omega
 go_enter Tryz.func113, Tryz.ntmps113
 go_wp2_with fail
 refine (Q.out.1 _).mono ?_
 rintro _ w1 ⟨rfl, rfl⟩
 go_wp2_with fail
 refine (Q.out.2.1 _).mono ?_
 rintro _ w1 ⟨rfl, rfl⟩
 go_wp2_with fail
 refine (Q.out.2.2 _).mono ?_
 rintro _ w1 ⟨rfl, rfl⟩
 clear Q
 go_wp2_with fail
 go_ret2
 exact ⟨Below.refl _ _, by rw [hv.out]; rfl⟩
set_option maxRecDepth 100000 in
theorem first_15 (s : ByteArray) (w : World) (h0 : 0 < s.size) (hm : s.size ≤ 1000000) (c : Nat) (ec : (s[0]'h0).toNat = c) (hc2 : c < 256) (a b d : Int) (Q : Hid (MoreIs s a b d)) (ha1 : -1 ≤ a) (ha2 : a < 64) (hb1 : -1 ≤ b) (hb2 : b < 64) (hd1 : -1 ≤ d) (hd2 : d < 64) (r : Int) (hr : ((c : Int) - 240) * 262144 + a * 4096 + b * 64 + d = r) (k0 : 240 ≤ c) (k1 : c < 245) (k2 : 0 ≤ a) (k3 : 0 ≤ b) (k4 : 0 ≤ d) (k5 : 65536 ≤ r) (k6 : 1114111 < r) :
  Calls Tryz.prog 113 #[.string s] w (FP c a b d w) := by
 have hv : Hid (rfI c a b d = (65533, 1)) := by
  show _ = _
  simp only [rfI]
  repeat' split
  all_goals first | rfl | (exfalso; omega) | (refine Prod.ext ?_ ?_ <;> simp <;> omega)
 have z0 : ¬ ((c : Int) < 128) := by omega
 have z1 : ¬ ((c : Int) < 224) := by omega
 have z2 : ¬ ((c : Int) < 240) := by omega
 have z3 : (194 : Int) ≤ c := by omega
 have z4 : (224 : Int) ≤ c := by omega
 have z5 : (240 : Int) ≤ c := by omega
 have z6 : (c : Int) < 245 := by omega
 go_enter Tryz.func113, Tryz.ntmps113
 go_wp2_with fail
 refine (Q.out.1 _).mono ?_
 rintro _ w1 ⟨rfl, rfl⟩
 go_wp2_with fail
 refine (Q.out.2.1 _).mono ?_
 rintro _ w1 ⟨rfl, rfl⟩
 go_wp2_with fail
 refine (Q.out.2.2 _).mono ?_
 rintro _ w1 ⟨rfl, rfl⟩
 clear Q
 go_wp2_with fail
 go_ret2
 exact ⟨Below.refl _ _, by rw [hv.out]; rfl⟩
set_option maxRecDepth 100000 in
theorem first_16 (s : ByteArray) (w : World) (h0 : 0 < s.size) (hm : s.size ≤ 1000000) (c : Nat) (ec : (s[0]'h0).toNat = c) (hc2 : c < 256) (a b d : Int) (Q : Hid (MoreIs s a b d)) (ha1 : -1 ≤ a) (ha2 : a < 64) (hb1 : -1 ≤ b) (hb2 : b < 64) (hd1 : -1 ≤ d) (hd2 : d < 64) (k0 : 245 ≤ c) :
  Calls Tryz.prog 113 #[.string s] w (FP c a b d w) := by
 have hv : Hid (rfI c a b d = (65533, 1)) := by
  show _ = _
  simp only [rfI]
  repeat' split
  all_goals first | rfl | (exfalso; omega) | (refine Prod.ext ?_ ?_ <;> simp <;> omega)
 have z0 : ¬ ((c : Int) < 128) := by omega
 have z1 : ¬ ((c : Int) < 224) := by omega
 have z2 : ¬ ((c : Int) < 240) := by omega
 have z3 : (194 : Int) ≤ c := by omega
 have z4 : (224 : Int) ≤ c := by omega
 have z5 : (240 : Int) ≤ c := by omega
 have z6 : ¬ ((c : Int) < 245) := by omega
 go_enter Tryz.func113, Tryz.ntmps113
 go_wp2_with fail
 refine (Q.out.1 _).mono ?_
 rintro _ w1 ⟨rfl, rfl⟩
 go_wp2_with fail
 refine (Q.out.2.1 _).mono ?_
 rintro _ w1 ⟨rfl, rfl⟩
 go_wp2_with fail
 refine (Q.out.2.2 _).mono ?_
 rintro _ w1 ⟨rfl, rfl⟩
 clear Q
 go_wp2_with fail
 go_ret2
 exact ⟨Below.refl _ _, by rw [hv.out]; rfl⟩
end Go.Proofs.YtnhjgocdepbajaaGreat

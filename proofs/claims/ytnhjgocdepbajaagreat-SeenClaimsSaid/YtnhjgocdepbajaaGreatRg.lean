import Derived.Test.YtnhjgocdepbajaaGreatRf
set_option linter.unusedVariables false
set_option linter.unusedSimpArgs false
set_option maxRecDepth 20000
set_option maxHeartbeats 400000
namespace Go.Proofs.YtnhjgocdepbajaaGreat
open Go.RowKit Tx
def MoreIs (s : ByteArray) (a b d : Int) : Prop := (∀ w, Calls Tryz.prog 125 #[.string s, .int .i64 1] w fun e w' => e = .returned (.int .i64 a) ∧ w = w') ∧ (∀ w, Calls Tryz.prog 125 #[.string s, .int .i64 2] w fun e w' => e = .returned (.int .i64 b) ∧ w = w') ∧ (∀ w, Calls Tryz.prog 125 #[.string s, .int .i64 3] w fun e w' => e = .returned (.int .i64 d) ∧ w = w')
def FP (c a b d : Int) (w : World) (e : Ending) (w' : World) : Prop := Below w.heap.size w w' ∧ e = .returned (.tuple #[.int .i64 (rfI c a b d).1, .int .i64 (rfI c a b d).2])
set_option maxRecDepth 100000 in
theorem first_0 (s : ByteArray) (w : World) (h0 : 0 < s.size) (hm : s.size ≤ 1000000) (c : Nat) (ec : (s[0]'h0).toNat = c) (hc2 : c < 256) (a b d : Int) (Q : Hid (MoreIs s a b d)) (ha1 : -1 ≤ a) (ha2 : a < 64) (hb1 : -1 ≤ b) (hb2 : b < 64) (hd1 : -1 ≤ d) (hd2 : d < 64) (k0 : c < 128) :
  Calls Tryz.prog 113 #[.string s] w (FP c a b d w) := by
 have hv : Hid (rfI c a b d = ((c : Int), 1)) := by
  show _ = _
  simp only [rfI]
  repeat' split
  all_goals first | rfl | (exfalso; omega) | (refine Prod.ext ?_ ?_ <;> simp <;> omega)
 go_enter Tryz.func113, Tryz.ntmps113
 go_wp2_with fail
 refine (Q.out.1 _).mono ?_
 rintro _ w1 ⟨rfl, rfl⟩
 go_wp2_with fail
 refine (Q.out.2.1 _).mono ?_
 rintro _ w1 ⟨rfl, rfl⟩
 go_wp2_with fail
 refine (Q.out.2.2 _).mono ?_
 rintro _ w1 ⟨rfl, rfl⟩
 clear Q
 go_wp2_with fail
 go_ret2
 exact ⟨Below.refl _ _, by rw [hv.out]; rfl⟩
set_option maxRecDepth 100000 in
theorem first_1 (s : ByteArray) (w : World) (h0 : 0 < s.size) (hm : s.size ≤ 1000000) (c : Nat) (ec : (s[0]'h0).toNat = c) (hc2 : c < 256) (a b d : Int) (Q : Hid (MoreIs s a b d)) (ha1 : -1 ≤ a) (ha2 : a < 64) (hb1 : -1 ≤ b) (hb2 : b < 64) (hd1 : -1 ≤ d) (hd2 : d < 64) (k0 : 128 ≤ c) (k1 : c < 194) :
  Calls Tryz.prog 113 #[.string s] w (FP c a b d w) := by
 have hv : Hid (rfI c a b d = (65533, 1)) := by
  show _ = _
  simp only [rfI]
  repeat' split
  all_goals first | rfl | (exfalso; omega) | (refine Prod.ext ?_ ?_ <;> simp <;> omega)
 go_enter Tryz.func113, Tryz.ntmps113
 go_wp2_with fail
 refine (Q.out.1 _).mono ?_
 rintro _ w1 ⟨rfl, rfl⟩
 go_wp2_with fail
 refine (Q.out.2.1 _).mono ?_
 rintro _ w1 ⟨rfl, rfl⟩
 go_wp2_with fail
 refine (Q.out.2.2 _).mono ?_
 rintro _ w1 ⟨rfl, rfl⟩
 clear Q
 go_wp2_with fail
 go_ret2
 exact ⟨Below.refl _ _, by rw [hv.out]; rfl⟩
set_option maxRecDepth 100000 in
theorem first_2 (s : ByteArray) (w : World) (h0 : 0 < s.size) (hm : s.size ≤ 1000000) (c : Nat) (ec : (s[0]'h0).toNat = c) (hc2 : c < 256) (a b d : Int) (Q : Hid (MoreIs s a b d)) (ha1 : -1 ≤ a) (ha2 : a < 64) (hb1 : -1 ≤ b) (hb2 : b < 64) (hd1 : -1 ≤ d) (hd2 : d < 64) (k0 : 194 ≤ c) (k1 : c < 224) (k2 : 0 ≤ a) :
  Calls Tryz.prog 113 #[.string s] w (FP c a b d w) := by
 have hv : Hid (rfI c a b d = (((c : Int) - 192) * 64 + a, 2)) := by
  show _ = _
  simp only [rfI]
  repeat' split
  all_goals first | rfl | (exfalso; omega) | (refine Prod.ext ?_ ?_ <;> simp <;> omega)
 go_enter Tryz.func113, Tryz.ntmps113
 go_wp2_with fail
 refine (Q.out.1 _).mono ?_
 rintro _ w1 ⟨rfl, rfl⟩
 go_wp2_with fail
 refine (Q.out.2.1 _).mono ?_
 rintro _ w1 ⟨rfl, rfl⟩
 go_wp2_with fail
 refine (Q.out.2.2 _).mono ?_
 rintro _ w1 ⟨rfl, rfl⟩
 clear Q
 go_wp2_with fail
 go_ret2
 exact ⟨Below.refl _ _, by rw [hv.out]; rfl⟩
set_option maxRecDepth 100000 in
theorem first_3 (s : ByteArray) (w : World) (h0 : 0 < s.size) (hm : s.size ≤ 1000000) (c : Nat) (ec : (s[0]'h0).toNat = c) (hc2 : c < 256) (a b d : Int) (Q : Hid (MoreIs s a b d)) (ha1 : -1 ≤ a) (ha2 : a < 64) (hb1 : -1 ≤ b) (hb2 : b < 64) (hd1 : -1 ≤ d) (hd2 : d < 64) (k0 : 194 ≤ c) (k1 : c < 224) (k2 : a < 0) :
  Calls Tryz.prog 113 #[.string s] w (FP c a b d w) := by
 have hv : Hid (rfI c a b d = (65533, 1)) := by
  show _ = _
  simp only [rfI]
  repeat' split
  all_goals first | rfl | (exfalso; omega) | (refine Prod.ext ?_ ?_ <;> simp <;> omega)
 go_enter Tryz.func113, Tryz.ntmps113
 go_wp2_with fail
 refine (Q.out.1 _).mono ?_
 rintro _ w1 ⟨rfl, rfl⟩
 go_wp2_with fail
 refine (Q.out.2.1 _).mono ?_
 rintro _ w1 ⟨rfl, rfl⟩
 go_wp2_with fail
 refine (Q.out.2.2 _).mono ?_
 rintro _ w1 ⟨rfl, rfl⟩
 clear Q
 go_wp2_with fail
 go_ret2
 exact ⟨Below.refl _ _, by rw [hv.out]; rfl⟩
set_option maxRecDepth 100000 in
theorem first_4 (s : ByteArray) (w : World) (h0 : 0 < s.size) (hm : s.size ≤ 1000000) (c : Nat) (ec : (s[0]'h0).toNat = c) (hc2 : c < 256) (a b d : Int) (Q : Hid (MoreIs s a b d)) (ha1 : -1 ≤ a) (ha2 : a < 64) (hb1 : -1 ≤ b) (hb2 : b < 64) (hd1 : -1 ≤ d) (hd2 : d < 64) (k0 : 224 ≤ c) (k1 : c < 240) (k2 : a < 0) :
  Calls Tryz.prog 113 #[.string s] w (FP c a b d w) := by
 have hv : Hid (rfI c a b d = (65533, 1)) := by
  show _ = _
  simp only [rfI]
  repeat' split
  all_goals first | rfl | (exfalso; omega) | (refine Prod.ext ?_ ?_ <;> simp <;> omega)
 go_enter Tryz.func113, Tryz.ntmps113
 go_wp2_with fail
 refine (Q.out.1 _).mono ?_
 rintro _ w1 ⟨rfl, rfl⟩
 go_wp2_with fail
 refine (Q.out.2.1 _).mono ?_
 rintro _ w1 ⟨rfl, rfl⟩
 go_wp2_with fail
 refine (Q.out.2.2 _).mono ?_
 rintro _ w1 ⟨rfl, rfl⟩
 clear Q
 go_wp2_with fail
 go_ret2
 exact ⟨Below.refl _ _, by rw [hv.out]; rfl⟩
set_option maxRecDepth 100000 in
theorem first_5 (s : ByteArray) (w : World) (h0 : 0 < s.size) (hm : s.size ≤ 1000000) (c : Nat) (ec : (s[0]'h0).toNat = c) (hc2 : c < 256) (a b d : Int) (Q : Hid (MoreIs s a b d)) (ha1 : -1 ≤ a) (ha2 : a < 64) (hb1 : -1 ≤ b) (hb2 : b < 64) (hd1 : -1 ≤ d) (hd2 : d < 64) (k0 : 224 ≤ c) (k1 : c < 240) (k2 : 0 ≤ a) (k3 : b < 0) :
  Calls Tryz.prog 113 #[.string s] w (FP c a b d w) := by
 have hv : Hid (rfI c a b d = (65533, 1)) := by
  show _ = _
  simp only [rfI]
  repeat' split
  all_goals first | rfl | (exfalso; omega) | (refine Prod.ext ?_ ?_ <;> simp <;> omega)
 go_enter Tryz.func113, Tryz.ntmps113
 go_wp2_with fail
 refine (Q.out.1 _).mono ?_
 rintro _ w1 ⟨rfl, rfl⟩
 go_wp2_with fail
 refine (Q.out.2.1 _).mono ?_
 rintro _ w1 ⟨rfl, rfl⟩
 go_wp2_with fail
 refine (Q.out.2.2 _).mono ?_
 rintro _ w1 ⟨rfl, rfl⟩
 clear Q
 go_wp2_with fail
 go_ret2
 exact ⟨Below.refl _ _, by rw [hv.out]; rfl⟩
set_option maxRecDepth 100000 in
theorem first_6 (s : ByteArray) (w : World) (h0 : 0 < s.size) (hm : s.size ≤ 1000000) (c : Nat) (ec : (s[0]'h0).toNat = c) (hc2 : c < 256) (a b d : Int) (Q : Hid (MoreIs s a b d)) (ha1 : -1 ≤ a) (ha2 : a < 64) (hb1 : -1 ≤ b) (hb2 : b < 64) (hd1 : -1 ≤ d) (hd2 : d < 64) (r : Int) (hr : ((c : Int) - 224) * 4096 + a * 64 + b = r) (k0 : 224 ≤ c) (k1 : c < 240) (k2 : 0 ≤ a) (k3 : 0 ≤ b) (k4 : r < 2048) :
  Calls Tryz.prog 113 #[.string s] w (FP c a b d w) := by
 have hv : Hid (rfI c a b d = (65533, 1)) := by
  show _ = _
  simp only [rfI]
  repeat' split
  all_goals first | rfl | (exfalso; omega) | (refine Prod.ext ?_ ?_ <;> simp <;> omega)
 go_enter Tryz.func113, Tryz.ntmps113
 go_wp2_with fail
 refine (Q.out.1 _).mono ?_
 rintro _ w1 ⟨rfl, rfl⟩
 go_wp2_with fail
 refine (Q.out.2.1 _).mono ?_
 rintro _ w1 ⟨rfl, rfl⟩
 go_wp2_with fail
 refine (Q.out.2.2 _).mono ?_
 rintro _ w1 ⟨rfl, rfl⟩
 clear Q
 go_wp2_with fail
 go_ret2
 exact ⟨Below.refl _ _, by rw [hv.out]; rfl⟩
set_option maxRecDepth 100000 in
theorem first_7 (s : ByteArray) (w : World) (h0 : 0 < s.size) (hm : s.size ≤ 1000000) (c : Nat) (ec : (s[0]'h0).toNat = c) (hc2 : c < 256) (a b d : Int) (Q : Hid (MoreIs s a b d)) (ha1 : -1 ≤ a) (ha2 : a < 64) (hb1 : -1 ≤ b) (hb2 : b < 64) (hd1 : -1 ≤ d) (hd2 : d < 64) (r : Int) (hr : ((c : Int) - 224) * 4096 + a * 64 + b = r) (k0 : 224 ≤ c) (k1 : c < 240) (k2 : 0 ≤ a) (k3 : 0 ≤ b) (k4 : 2048 ≤ r) (k5 : r < 55296) :
  Calls Tryz.prog 113 #[.string s] w (FP c a b d w) := by
 have hv : Hid (rfI c a b d = (r, 3)) := by
  show _ = _
  simp only [rfI]
  repeat' split
  all_goals first | rfl | (exfalso; omega) | (refine Prod.ext ?_ ?_ <;> simp <;> omega)
 go_enter Tryz.func113, Tryz.ntmps113
 go_wp2_with fail
 refine (Q.out.1 _).mono ?_
 rintro _ w1 ⟨rfl, rfl⟩
 go_wp2_with fail
 refine (Q.out.2.1 _).mono ?_
 rintro _ w1 ⟨rfl, rfl⟩
 go_wp2_with fail
 refine (Q.out.2.2 _).mono ?_
 rintro _ w1 ⟨rfl, rfl⟩
 clear Q
 go_wp2_with fail
 go_ret2
 exact ⟨Below.refl _ _, by rw [hv.out]; rfl⟩
set_option maxRecDepth 100000 in
theorem first_8 (s : ByteArray) (w : World) (h0 : 0 < s.size) (hm : s.size ≤ 1000000) (c : Nat) (ec : (s[0]'h0).toNat = c) (hc2 : c < 256) (a b d : Int) (Q : Hid (MoreIs s a b d)) (ha1 : -1 ≤ a) (ha2 : a < 64) (hb1 : -1 ≤ b) (hb2 : b < 64) (hd1 : -1 ≤ d) (hd2 : d < 64) (r : Int) (hr : ((c : Int) - 224) * 4096 + a * 64 + b = r) (k0 : 224 ≤ c) (k1 : c < 240) (k2 : 0 ≤ a) (k3 : 0 ≤ b) (k4 : 2048 ≤ r) (k5 : 55296 ≤ r) (k6 : r ≤ 57343) :
  Calls Tryz.prog 113 #[.string s] w (FP c a b d w) := by
 have hv : Hid (rfI c a b d = (65533, 1)) := by
  show _ = _
  simp only [rfI]
  repeat' split
  all_goals first | rfl | (exfalso; omega) | (refine Prod.ext ?_ ?_ <;> simp <;> omega)
 go_enter Tryz.func113, Tryz.ntmps113
 go_wp2_with fail
 refine (Q.out.1 _).mono ?_
 rintro _ w1 ⟨rfl, rfl⟩
 go_wp2_with fail
 refine (Q.out.2.1 _).mono ?_
 rintro _ w1 ⟨rfl, rfl⟩
 go_wp2_with fail
 refine (Q.out.2.2 _).mono ?_
 rintro _ w1 ⟨rfl, rfl⟩
 clear Q
 go_wp2_with fail
 go_ret2
 exact ⟨Below.refl _ _, by rw [hv.out]; rfl⟩
set_option maxRecDepth 100000 in
theorem first_9 (s : ByteArray) (w : World) (h0 : 0 < s.size) (hm : s.size ≤ 1000000) (c : Nat) (ec : (s[0]'h0).toNat = c) (hc2 : c < 256) (a b d : Int) (Q : Hid (MoreIs s a b d)) (ha1 : -1 ≤ a) (ha2 : a < 64) (hb1 : -1 ≤ b) (hb2 : b < 64) (hd1 : -1 ≤ d) (hd2 : d < 64) (r : Int) (hr : ((c : Int) - 224) * 4096 + a * 64 + b = r) (k0 : 224 ≤ c) (k1 : c < 240) (k2 : 0 ≤ a) (k3 : 0 ≤ b) (k4 : 2048 ≤ r) (k5 : 55296 ≤ r) (k6 : 57343 < r) :
  Calls Tryz.prog 113 #[.string s] w (FP c a b d w) := by
 have hv : Hid (rfI c a b d = (r, 3)) := by
  show _ = _
  simp only [rfI]
  repeat' split
  all_goals first | rfl | (exfalso; omega) | (refine Prod.ext ?_ ?_ <;> simp <;> omega)
 go_enter Tryz.func113, Tryz.ntmps113
 go_wp2_with fail
 refine (Q.out.1 _).mono ?_
 rintro _ w1 ⟨rfl, rfl⟩
 go_wp2_with fail
 refine (Q.out.2.1 _).mono ?_
 rintro _ w1 ⟨rfl, rfl⟩
 go_wp2_with fail
 refine (Q.out.2.2 _).mono ?_
 rintro _ w1 ⟨rfl, rfl⟩
 clear Q
 go_wp2_with fail
 go_ret2
 exact ⟨Below.refl _ _, by rw [hv.out]; rfl⟩
end Go.Proofs.YtnhjgocdepbajaaGreat

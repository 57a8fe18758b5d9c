/- countersignref12.may joined, and May. Condition: small values. -/
import Derived.Test.YtnhjgocdepbajaaGreatJo
set_option linter.unusedVariables false
set_option linter.unusedSimpArgs false
set_option maxRecDepth 20000
namespace Go.Proofs.YtnhjgocdepbajaaGreat
open Go.RowKit
theorem rmay_node (k : Int) (b : Bool) (n : Int) (s : List UInt8) (names : List (List UInt8)) (kids : List Jv) (hok : ∀ x ∈ kids, RMayOk x) : RMayOk (.mk k b n s names kids) := by
 intro cs deep w hsm hd hv
 rw [smJ] at hsm
 obtain ⟨_, _, hs3, hs4, hs5, hs6, hs7⟩ := hsm
 rw [JvV] at hv
 obtain ⟨NA, nc, A, c, vs, rfl, h1, h2, h3, _, h5, _, h7⟩ := hv
 have cval : Hid (∀ W, CallsB 93 (.string ⟨s.toArray⟩) (validL s) W) := fun W => rvalid_walk _ s (by simp) W (by rw [size_mks]; omega)
 have cname : Hid (∀ (p : List UInt8) W, p ∈ names → CallsB 93 (.string ⟨p.toArray⟩) (validL p) W) := fun p W hp => rvalid_walk _ p (by simp) W (by rw [size_mks]; have := hs5 p hp; omega)
 have hok2 : Hid (∀ x ∈ kids, smJ x ∧ RMayOk x) := fun x hx => ⟨smJs_all hs7 x hx, hok x hx⟩
 simp only [cells6, strV]
 by_cases h : k < 1
 ·
  exact rmay_low k h b n s _ names kids _ _ rfl rfl rfl NA nc A c w deep hd cval cname h3 hs4 vs h7 h5 hs6 hok2
 by_cases h6 : 6 < k
 ·
  exact rmay_high k h6 b n s _ names kids _ _ rfl rfl rfl NA nc A c w deep hd cval cname h3 hs4 vs h7 h5 hs6 hok2
 have : k = 1 ∨ k = 2 ∨ k = 3 ∨ k = 4 ∨ k = 5 ∨ k = 6 := by omega
 rcases this with rfl | rfl | rfl | rfl | rfl | rfl
 ·
  exact rmay_1 b n s _ names kids _ _ rfl rfl rfl NA nc A c w deep hd cval cname h3 hs4 vs h7 h5 hs6 hok2
 ·
  exact rmay_2 b n s _ names kids _ _ rfl rfl rfl NA nc A c w deep hd cval cname h3 hs4 vs h7 h5 hs6 hok2
 ·
  exact rmay_3 b n s _ names kids _ _ rfl rfl rfl NA nc A c w deep hd cval cname h3 hs4 vs h7 h5 hs6 hok2
 ·
  exact rmay_4 b n s _ names kids _ _ rfl rfl rfl NA nc A c w deep hd cval cname h3 hs4 vs h7 h5 hs6 hok2
 ·
  exact rmay_5 b n s _ names kids _ _ rfl rfl rfl NA nc A c w deep hd cval cname h3 hs4 vs h7 h5 hs6 hok2
 ·
  exact rmay_6 b n s _ names kids _ _ rfl rfl rfl NA nc A c w deep hd cval cname h3 hs4 vs h7 h5 hs6 hok2
mutual
theorem rmay_all : ∀ t : Jv, RMayOk t
 | .mk k b n s names kids => rmay_node k b n s names kids (rmay_each kids)
theorem rmay_each : ∀ ks : List Jv, ∀ k ∈ ks, RMayOk k
 | [], k, h => by simp at h
 | x :: ks, k, h => by
  have h1 := rmay_all x
  have h2 := rmay_each ks
  rcases List.mem_cons.1 h with e | h
  ·
   rw [e]; exact h1
  ·
   exact h2 k h
end
theorem rmaym_walk (v : Jv) (cs : List Value) (w : World) (hsm : smJ v) (hv : JvV w 0 v cs) : Calls Tryz.prog 27 #[.agg cs.toArray] w fun e w' => e = .returned (.bool (mayB v)) ∧ Below w.heap.size w w' := by
 obtain ⟨k1, b1, n1, s1, NA1, nn1, nc1, A1, m1, c1, rfl⟩ := hv.form
 have hb1 := (Below.refl w.heap.size w).alloc (Nat.le_refl _) (.cells #[.int .i64 k1, .bool b1, .int .i64 n1, .string s1, .slice NA1 nn1 nc1, .slice A1 m1 c1] 48)
 have cp : Hid (Calls Tryz.prog 63 #[.agg #[.int .i64 k1, .bool b1, .int .i64 n1, .string s1, .slice NA1 nn1 nc1, .slice A1 m1 c1], .int .i64 0] (w.alloc (.cells #[.int .i64 k1, .bool b1, .int .i64 n1, .string s1, .slice NA1 nn1 nc1, .slice A1 m1 c1] 48)) fun e w' => e = .returned (.bool (mayJ validL v 0)) ∧ Below (w.alloc (.cells #[.int .i64 k1, .bool b1, .int .i64 n1, .string s1, .slice NA1 nn1 nc1, .slice A1 m1 c1] 48)).heap.size (w.alloc (.cells #[.int .i64 k1, .bool b1, .int .i64 n1, .string s1, .slice NA1 nn1 nc1, .slice A1 m1 c1] 48)) w') := rmay_all v _ 0 _ hsm (by omega) (hv.below hb1)
 have HK := Lib.hid (Blk.new w 48 #[.int .i64 k1, .bool b1, .int .i64 n1, .string s1, .slice NA1 nn1 nc1, .slice A1 m1 c1])
 have HB1 := Lib.hid hb1
 clear hb1 hv
 go_enter Tryz.func27, Tryz.ntmps27
 go_wp2_with (refine wpList_load_at rfl 48 _ rfl ⟨w.heap.size, 0, none⟩ rfl [.int .i64 k1, .bool b1, .int .i64 n1, .string s1, .slice NA1 nn1 nc1, .slice A1 m1 c1] _ (blk_cells HK.out) Tryz.underlying48 rfl jv_size ?_)
 refine cp.out.mono ?_
 rintro _ w5 ⟨rfl, hb5⟩
 have HB5 := Lib.hid (below_next HB1.out hb5)
 clear hb5
 go_wp2_with fail
 go_ret
 exact ⟨rfl, HB5.out⟩
end Go.Proofs.YtnhjgocdepbajaaGreat

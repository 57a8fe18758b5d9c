/- countersignref12.may by the kind of the value; printed by genJo.py. Condition: small values. -/
import Derived.Test.YtnhjgocdepbajaaGreatJn
import Derived.Deep.Cut
set_option linter.unusedVariables false
set_option linter.unusedSimpArgs false
set_option maxRecDepth 20000
set_option maxHeartbeats 16000000
namespace Go.Proofs.YtnhjgocdepbajaaGreat
open Go.RowKit Go.Maps
theorem rmay_low (k : Int) (hk : k < 1) (b : Bool) (n : Int) (s : List UInt8) (y : ByteArray) (names : List (List UInt8)) (kids : List Jv) (m nl : Nat) (hm : kids.length = m) (hn : names.length = nl) (hy : (⟨s.toArray⟩ : ByteArray) = y) (NA : Option Addr) (nc : Nat) (A : Option Addr) (c : Nat) (w : World) (deep : Nat) (hd8 : deep ≤ 8)
  (cval : Hid (∀ W, CallsB 93 (.string y) (validL s) W))
  (cname : Hid (∀ (p : List UInt8) W, p ∈ names → CallsB 93 (.string ⟨p.toArray⟩) (validL p) W)) (hrn : Hid (Reads w w.heap.size 1 NA names.length (strVs names))) (hnl : nl ≤ 100000)
  (vs : List (List Value)) (hks : Hid (JvsV w 0 kids vs)) (hkr : Hid (Reads w w.heap.size 6 A kids.length vs.flatten)) (hmc : m ≤ 100000) (hok : Hid (∀ x ∈ kids, smJ x ∧ RMayOk x)) :
  Calls Tryz.prog 63 #[.agg #[.int .i64 k, .bool b, .int .i64 n, .string y, .slice NA nl nc, .slice A m c], .int .i64 (deep : Int)] w fun e w' => e = .returned (.bool (mayJ validL (.mk k b n s names kids) deep)) ∧ Below w.heap.size w w' := by
 have HM := Lib.hid hm
 have HN := Lib.hid hn
 have HY := Lib.hid hy
 clear hm hn hy
 have d1 : decide (k < 1) = true := decide_eq_true hk
 have d2 : (k == 5) = false := by simp; omega
 have d3 : (k == 6) = false := by simp; omega
 have hv : Hid (mayJ validL (.mk k b n s names kids) deep = false) := by
  show _ = _
  simp [mayJ, aloneB, show ¬ (1 ≤ k ∧ k ≤ 6) by omega]
 have HB := Lib.hid ((Below.refl w.heap.size w).alloc (Nat.le_refl _) (.cells #[.int .i64 k, .bool b, .int .i64 n, .string y, .slice NA nl nc, .slice A m c] 48))
 go_enter Tryz.func63, Tryz.ntmps63
 go_upto_region 2 with (fail)
 apply wp_region_lit
 simp only [List.append_eq, List.cons_append, List.nil_append]
 go_wp2_with fail
 go_ret
 exact ⟨by rw [hv.out]; rfl, HB.out⟩
theorem rmay_high (k : Int) (hk : 6 < k) (b : Bool) (n : Int) (s : List UInt8) (y : ByteArray) (names : List (List UInt8)) (kids : List Jv) (m nl : Nat) (hm : kids.length = m) (hn : names.length = nl) (hy : (⟨s.toArray⟩ : ByteArray) = y) (NA : Option Addr) (nc : Nat) (A : Option Addr) (c : Nat) (w : World) (deep : Nat) (hd8 : deep ≤ 8)
  (cval : Hid (∀ W, CallsB 93 (.string y) (validL s) W))
  (cname : Hid (∀ (p : List UInt8) W, p ∈ names → CallsB 93 (.string ⟨p.toArray⟩) (validL p) W)) (hrn : Hid (Reads w w.heap.size 1 NA names.length (strVs names))) (hnl : nl ≤ 100000)
  (vs : List (List Value)) (hks : Hid (JvsV w 0 kids vs)) (hkr : Hid (Reads w w.heap.size 6 A kids.length vs.flatten)) (hmc : m ≤ 100000) (hok : Hid (∀ x ∈ kids, smJ x ∧ RMayOk x)) :
  Calls Tryz.prog 63 #[.agg #[.int .i64 k, .bool b, .int .i64 n, .string y, .slice NA nl nc, .slice A m c], .int .i64 (deep : Int)] w fun e w' => e = .returned (.bool (mayJ validL (.mk k b n s names kids) deep)) ∧ Below w.heap.size w w' := by
 have HM := Lib.hid hm
 have HN := Lib.hid hn
 have HY := Lib.hid hy
 clear hm hn hy
 have d1 : decide (k < 1) = false := decide_eq_false (by omega)
 have d0 : decide (6 < k) = true := decide_eq_true hk
 have d2 : (k == 5) = false := by simp; omega
 have d3 : (k == 6) = false := by simp; omega
 have hv : Hid (mayJ validL (.mk k b n s names kids) deep = false) := by
  show _ = _
  simp [mayJ, aloneB, show ¬ (1 ≤ k ∧ k ≤ 6) by omega]
 have HB := Lib.hid ((Below.refl w.heap.size w).alloc (Nat.le_refl _) (.cells #[.int .i64 k, .bool b, .int .i64 n, .string y, .slice NA nl nc, .slice A m c] 48))
 go_enter Tryz.func63, Tryz.ntmps63
 go_upto_region 2 with (fail)
 apply wp_region_lit
 simp only [List.append_eq, List.cons_append, List.nil_append]
 go_wp2_with fail
 go_ret
 exact ⟨by rw [hv.out]; rfl, HB.out⟩
theorem rmay_1 (b : Bool) (n : Int) (s : List UInt8) (y : ByteArray) (names : List (List UInt8)) (kids : List Jv) (m nl : Nat) (hm : kids.length = m) (hn : names.length = nl) (hy : (⟨s.toArray⟩ : ByteArray) = y) (NA : Option Addr) (nc : Nat) (A : Option Addr) (c : Nat) (w : World) (deep : Nat) (hd8 : deep ≤ 8)
  (cval : Hid (∀ W, CallsB 93 (.string y) (validL s) W))
  (cname : Hid (∀ (p : List UInt8) W, p ∈ names → CallsB 93 (.string ⟨p.toArray⟩) (validL p) W)) (hrn : Hid (Reads w w.heap.size 1 NA names.length (strVs names))) (hnl : nl ≤ 100000)
  (vs : List (List Value)) (hks : Hid (JvsV w 0 kids vs)) (hkr : Hid (Reads w w.heap.size 6 A kids.length vs.flatten)) (hmc : m ≤ 100000) (hok : Hid (∀ x ∈ kids, smJ x ∧ RMayOk x)) :
  Calls Tryz.prog 63 #[.agg #[.int .i64 1, .bool b, .int .i64 n, .string y, .slice NA nl nc, .slice A m c], .int .i64 (deep : Int)] w fun e w' => e = .returned (.bool (mayJ validL (.mk 1 b n s names kids) deep)) ∧ Below w.heap.size w w' := by
 have HM := Lib.hid hm
 have HN := Lib.hid hn
 have HY := Lib.hid hy
 clear hm hn hy
 cases b
 case true =>
  have hv : Hid (mayJ validL (.mk 1 true n s names kids) deep = false) := by
   show _ = _
   simp [mayJ, aloneB]
  have HB := Lib.hid ((Below.refl w.heap.size w).alloc (Nat.le_refl _) (.cells #[.int .i64 1, .bool true, .int .i64 n, .string y, .slice NA nl nc, .slice A m c] 48))
  go_enter Tryz.func63, Tryz.ntmps63
  go_upto_region 2 with (fail)
  apply wp_region_lit
  simp only [List.append_eq, List.cons_append, List.nil_append]
  go_wp2_with fail
  go_ret
  exact ⟨by rw [hv.out]; rfl, HB.out⟩
 by_cases hn0 : n = 0
 case neg =>
  have f1 : (n == 0) = false := by simpa using hn0
  have f2 : (n != 0) = true := by simpa using hn0
  have hv : Hid (mayJ validL (.mk 1 false n s names kids) deep = false) := by
   show _ = _
   simp [mayJ, aloneB, hn0]
  have HB := Lib.hid ((Below.refl w.heap.size w).alloc (Nat.le_refl _) (.cells #[.int .i64 1, .bool false, .int .i64 n, .string y, .slice NA nl nc, .slice A m c] 48))
  go_enter Tryz.func63, Tryz.ntmps63
  go_upto_region 2 with (fail)
  apply wp_region_lit
  simp only [List.append_eq, List.cons_append, List.nil_append]
  go_wp2_with fail
  go_ret
  exact ⟨by rw [hv.out]; rfl, HB.out⟩
 subst hn0
 by_cases hs0 : s = []
 case neg =>
  obtain ⟨g1, g2, g3, g4⟩ := str_not HY.out hs0
  have hv : Hid (mayJ validL (.mk 1 false 0 s names kids) deep = false) := by
   show _ = _
   simp [mayJ, aloneB, hs0]
  have HB := Lib.hid ((Below.refl w.heap.size w).alloc (Nat.le_refl _) (.cells #[.int .i64 1, .bool false, .int .i64 0, .string y, .slice NA nl nc, .slice A m c] 48))
  go_enter Tryz.func63, Tryz.ntmps63
  go_upto_region 2 with (fail)
  apply wp_region_lit
  simp only [List.append_eq, List.cons_append, List.nil_append]
  go_wp2_with fail
  go_ret
  exact ⟨by rw [hv.out]; rfl, HB.out⟩
 obtain rfl := str_nothing HY.out hs0
 subst hs0
 clear HY
 cases hval : validL []
 case false =>
  have hv : Hid (mayJ validL (.mk 1 false 0 [] names kids) deep = false) := by
   show _ = _
   simp [mayJ, aloneB, hval]
  rw [hval] at cval
  clear hval
  have HB := Lib.hid ((Below.refl w.heap.size w).alloc (Nat.le_refl _) (.cells #[.int .i64 1, .bool false, .int .i64 0, .string ⟨#[]⟩, .slice NA nl nc, .slice A m c] 48))
  have HK1 := Lib.hid (Blk.new w 48 #[.int .i64 1, .bool false, .int .i64 0, .string ⟨#[]⟩, .slice NA nl nc, .slice A m c])
  go_enter Tryz.func63, Tryz.ntmps63
  go_upto_region 2 with (fail)
  apply wp_region_lit
  simp only [List.append_eq, List.cons_append, List.nil_append]
  go_wp2_with fail
  refine (cval.out _).mono ?_
  rintro _ w2 ⟨rfl, hb2⟩
  have HX2 := HK1.out.below hb2 HK1.out.lt
  have c0 : w2.cell? ⟨w.heap.size, 0, none⟩ = some (.int .i64 1) := HX2.cell 0
  have c4 : w2.cell? ⟨w.heap.size, 4, none⟩ = some (.slice NA nl nc) := HX2.cell 4
  have c5 : w2.cell? ⟨w.heap.size, 5, none⟩ = some (.slice A m c) := HX2.cell 5
  have HB2 := Lib.hid (below_next HB.out hb2)
  have HK2 := Lib.hid HX2
  clear hb2 HX2
  go_wp2_with fail
  go_ret
  exact ⟨by rw [hv.out]; rfl, HB2.out⟩
 rw [hval] at cval
 clear hval
 have HKE : Hid (kids.isEmpty = decide (m = 0)) := by show _ = _; rw [← HM.out]; cases kids <;> simp
 have HNE : Hid (names.isEmpty = decide (nl = 0)) := by show _ = _; rw [← HN.out]; cases names <;> simp
 by_cases hm0 : m = 0
 case neg =>
  have k1 : decide (0 < (m : Int)) = true := by simp; omega
  have k2 : decide (0 < m) = true := by simp; omega
  have hv : Hid (mayJ validL (.mk 1 false 0 [] names kids) deep = false) := by
   show _ = _
   simp [mayJ, aloneB, show validL [] = true from rfl, HKE.out, hm0]
  have HB := Lib.hid ((Below.refl w.heap.size w).alloc (Nat.le_refl _) (.cells #[.int .i64 1, .bool false, .int .i64 0, .string ⟨#[]⟩, .slice NA nl nc, .slice A m c] 48))
  have HK1 := Lib.hid (Blk.new w 48 #[.int .i64 1, .bool false, .int .i64 0, .string ⟨#[]⟩, .slice NA nl nc, .slice A m c])
  go_enter Tryz.func63, Tryz.ntmps63
  go_upto_region 2 with (fail)
  apply wp_region_lit
  simp only [List.append_eq, List.cons_append, List.nil_append]
  go_wp2_with fail
  refine (cval.out _).mono ?_
  rintro _ w2 ⟨rfl, hb2⟩
  have HX2 := HK1.out.below hb2 HK1.out.lt
  have c0 : w2.cell? ⟨w.heap.size, 0, none⟩ = some (.int .i64 1) := HX2.cell 0
  have c4 : w2.cell? ⟨w.heap.size, 4, none⟩ = some (.slice NA nl nc) := HX2.cell 4
  have c5 : w2.cell? ⟨w.heap.size, 5, none⟩ = some (.slice A m c) := HX2.cell 5
  have HB2 := Lib.hid (below_next HB.out hb2)
  have HK2 := Lib.hid HX2
  clear hb2 HX2
  go_wp2_with fail
  go_ret
  exact ⟨by rw [hv.out]; rfl, HB2.out⟩
 subst hm0
 by_cases hl0 : nl = 0
 case neg =>
  have l1 : decide (0 < (nl : Int)) = true := by simp; omega
  have l2 : decide (0 < nl) = true := by simp; omega
  have hv : Hid (mayJ validL (.mk 1 false 0 [] names kids) deep = false) := by
   show _ = _
   simp [mayJ, aloneB, show validL [] = true from rfl, HNE.out, hl0]
  have HB := Lib.hid ((Below.refl w.heap.size w).alloc (Nat.le_refl _) (.cells #[.int .i64 1, .bool false, .int .i64 0, .string ⟨#[]⟩, .slice NA nl nc, .slice A 0 c] 48))
  have HK1 := Lib.hid (Blk.new w 48 #[.int .i64 1, .bool false, .int .i64 0, .string ⟨#[]⟩, .slice NA nl nc, .slice A 0 c])
  go_enter Tryz.func63, Tryz.ntmps63
  go_upto_region 2 with (fail)
  apply wp_region_lit
  simp only [List.append_eq, List.cons_append, List.nil_append]
  go_wp2_with fail
  refine (cval.out _).mono ?_
  rintro _ w2 ⟨rfl, hb2⟩
  have HX2 := HK1.out.below hb2 HK1.out.lt
  have c0 : w2.cell? ⟨w.heap.size, 0, none⟩ = some (.int .i64 1) := HX2.cell 0
  have c4 : w2.cell? ⟨w.heap.size, 4, none⟩ = some (.slice NA nl nc) := HX2.cell 4
  have c5 : w2.cell? ⟨w.heap.size, 5, none⟩ = some (.slice A 0 c) := HX2.cell 5
  have HB2 := Lib.hid (below_next HB.out hb2)
  have HK2 := Lib.hid HX2
  clear hb2 HX2
  go_wp2_with fail
  go_ret
  exact ⟨by rw [hv.out]; rfl, HB2.out⟩
 subst hl0
 have hv : Hid (mayJ validL (.mk 1 false 0 [] names kids) deep = true) := by
  show _ = _
  simp [mayJ, aloneB, show validL [] = true from rfl, HKE.out, HNE.out]
 have HB := Lib.hid ((Below.refl w.heap.size w).alloc (Nat.le_refl _) (.cells #[.int .i64 1, .bool false, .int .i64 0, .string ⟨#[]⟩, .slice NA 0 nc, .slice A 0 c] 48))
 have HK1 := Lib.hid (Blk.new w 48 #[.int .i64 1, .bool false, .int .i64 0, .string ⟨#[]⟩, .slice NA 0 nc, .slice A 0 c])
 go_enter Tryz.func63, Tryz.ntmps63
 go_upto_region 2 with (fail)
 apply wp_region_lit
 simp only [List.append_eq, List.cons_append, List.nil_append]
 go_wp2_with fail
 refine (cval.out _).mono ?_
 rintro _ w2 ⟨rfl, hb2⟩
 have HX2 := HK1.out.below hb2 HK1.out.lt
 have c0 : w2.cell? ⟨w.heap.size, 0, none⟩ = some (.int .i64 1) := HX2.cell 0
 have c4 : w2.cell? ⟨w.heap.size, 4, none⟩ = some (.slice NA 0 nc) := HX2.cell 4
 have c5 : w2.cell? ⟨w.heap.size, 5, none⟩ = some (.slice A 0 c) := HX2.cell 5
 have HB2 := Lib.hid (below_next HB.out hb2)
 have HK2 := Lib.hid HX2
 clear hb2 HX2
 go_wp2_with fail
 clear HB HK1
 go_loopw [6] (fun iv wr => iv = .int .i64 0 ∧ w2 = wr) (fun iv _ => 0)
 case atStart => exact ⟨rfl, rfl⟩
 case round =>
  obtain ⟨rfl, rfl⟩ := hrel
  go_wp2_with fail
  go_loopw [7] (fun iv wr => iv = .int .i64 0 ∧ w2 = wr) (fun iv _ => 0)
  case atStart => exact ⟨rfl, rfl⟩
  case round =>
   obtain ⟨rfl, rfl⟩ := hrel
   go_wp2_with fail
   go_ret
   exact ⟨by rw [hv.out]; rfl, HB2.out⟩
theorem rmay_2 (b : Bool) (n : Int) (s : List UInt8) (y : ByteArray) (names : List (List UInt8)) (kids : List Jv) (m nl : Nat) (hm : kids.length = m) (hn : names.length = nl) (hy : (⟨s.toArray⟩ : ByteArray) = y) (NA : Option Addr) (nc : Nat) (A : Option Addr) (c : Nat) (w : World) (deep : Nat) (hd8 : deep ≤ 8)
  (cval : Hid (∀ W, CallsB 93 (.string y) (validL s) W))
  (cname : Hid (∀ (p : List UInt8) W, p ∈ names → CallsB 93 (.string ⟨p.toArray⟩) (validL p) W)) (hrn : Hid (Reads w w.heap.size 1 NA names.length (strVs names))) (hnl : nl ≤ 100000)
  (vs : List (List Value)) (hks : Hid (JvsV w 0 kids vs)) (hkr : Hid (Reads w w.heap.size 6 A kids.length vs.flatten)) (hmc : m ≤ 100000) (hok : Hid (∀ x ∈ kids, smJ x ∧ RMayOk x)) :
  Calls Tryz.prog 63 #[.agg #[.int .i64 2, .bool b, .int .i64 n, .string y, .slice NA nl nc, .slice A m c], .int .i64 (deep : Int)] w fun e w' => e = .returned (.bool (mayJ validL (.mk 2 b n s names kids) deep)) ∧ Below w.heap.size w w' := by
 have HM := Lib.hid hm
 have HN := Lib.hid hn
 have HY := Lib.hid hy
 clear hm hn hy
 by_cases hn0 : n = 0
 case neg =>
  have f1 : (n == 0) = false := by simpa using hn0
  have f2 : (n != 0) = true := by simpa using hn0
  have hv : Hid (mayJ validL (.mk 2 b n s names kids) deep = false) := by
   show _ = _
   simp [mayJ, aloneB, hn0]
  have HB := Lib.hid ((Below.refl w.heap.size w).alloc (Nat.le_refl _) (.cells #[.int .i64 2, .bool b, .int .i64 n, .string y, .slice NA nl nc, .slice A m c] 48))
  go_enter Tryz.func63, Tryz.ntmps63
  go_upto_region 2 with (fail)
  apply wp_region_lit
  simp only [List.append_eq, List.cons_append, List.nil_append]
  go_wp2_with fail
  go_ret
  exact ⟨by rw [hv.out]; rfl, HB.out⟩
 subst hn0
 by_cases hs0 : s = []
 case neg =>
  obtain ⟨g1, g2, g3, g4⟩ := str_not HY.out hs0
  have hv : Hid (mayJ validL (.mk 2 b 0 s names kids) deep = false) := by
   show _ = _
   simp [mayJ, aloneB, hs0]
  have HB := Lib.hid ((Below.refl w.heap.size w).alloc (Nat.le_refl _) (.cells #[.int .i64 2, .bool b, .int .i64 0, .string y, .slice NA nl nc, .slice A m c] 48))
  go_enter Tryz.func63, Tryz.ntmps63
  go_upto_region 2 with (fail)
  apply wp_region_lit
  simp only [List.append_eq, List.cons_append, List.nil_append]
  go_wp2_with fail
  go_ret
  exact ⟨by rw [hv.out]; rfl, HB.out⟩
 obtain rfl := str_nothing HY.out hs0
 subst hs0
 clear HY
 cases hval : validL []
 case false =>
  have hv : Hid (mayJ validL (.mk 2 b 0 [] names kids) deep = false) := by
   show _ = _
   simp [mayJ, aloneB, hval]
  rw [hval] at cval
  clear hval
  have HB := Lib.hid ((Below.refl w.heap.size w).alloc (Nat.le_refl _) (.cells #[.int .i64 2, .bool b, .int .i64 0, .string ⟨#[]⟩, .slice NA nl nc, .slice A m c] 48))
  have HK1 := Lib.hid (Blk.new w 48 #[.int .i64 2, .bool b, .int .i64 0, .string ⟨#[]⟩, .slice NA nl nc, .slice A m c])
  go_enter Tryz.func63, Tryz.ntmps63
  go_upto_region 2 with (fail)
  apply wp_region_lit
  simp only [List.append_eq, List.cons_append, List.nil_append]
  go_wp2_with fail
  refine (cval.out _).mono ?_
  rintro _ w2 ⟨rfl, hb2⟩
  have HX2 := HK1.out.below hb2 HK1.out.lt
  have c0 : w2.cell? ⟨w.heap.size, 0, none⟩ = some (.int .i64 2) := HX2.cell 0
  have c4 : w2.cell? ⟨w.heap.size, 4, none⟩ = some (.slice NA nl nc) := HX2.cell 4
  have c5 : w2.cell? ⟨w.heap.size, 5, none⟩ = some (.slice A m c) := HX2.cell 5
  have HB2 := Lib.hid (below_next HB.out hb2)
  have HK2 := Lib.hid HX2
  clear hb2 HX2
  go_wp2_with fail
  go_ret
  exact ⟨by rw [hv.out]; rfl, HB2.out⟩
 rw [hval] at cval
 clear hval
 have HKE : Hid (kids.isEmpty = decide (m = 0)) := by show _ = _; rw [← HM.out]; cases kids <;> simp
 have HNE : Hid (names.isEmpty = decide (nl = 0)) := by show _ = _; rw [← HN.out]; cases names <;> simp
 by_cases hm0 : m = 0
 case neg =>
  have k1 : decide (0 < (m : Int)) = true := by simp; omega
  have k2 : decide (0 < m) = true := by simp; omega
  have hv : Hid (mayJ validL (.mk 2 b 0 [] names kids) deep = false) := by
   show _ = _
   simp [mayJ, aloneB, show validL [] = true from rfl, HKE.out, hm0]
  have HB := Lib.hid ((Below.refl w.heap.size w).alloc (Nat.le_refl _) (.cells #[.int .i64 2, .bool b, .int .i64 0, .string ⟨#[]⟩, .slice NA nl nc, .slice A m c] 48))
  have HK1 := Lib.hid (Blk.new w 48 #[.int .i64 2, .bool b, .int .i64 0, .string ⟨#[]⟩, .slice NA nl nc, .slice A m c])
  go_enter Tryz.func63, Tryz.ntmps63
  go_upto_region 2 with (fail)
  apply wp_region_lit
  simp only [List.append_eq, List.cons_append, List.nil_append]
  go_wp2_with fail
  refine (cval.out _).mono ?_
  rintro _ w2 ⟨rfl, hb2⟩
  have HX2 := HK1.out.below hb2 HK1.out.lt
  have c0 : w2.cell? ⟨w.heap.size, 0, none⟩ = some (.int .i64 2) := HX2.cell 0
  have c4 : w2.cell? ⟨w.heap.size, 4, none⟩ = some (.slice NA nl nc) := HX2.cell 4
  have c5 : w2.cell? ⟨w.heap.size, 5, none⟩ = some (.slice A m c) := HX2.cell 5
  have HB2 := Lib.hid (below_next HB.out hb2)
  have HK2 := Lib.hid HX2
  clear hb2 HX2
  go_wp2_with fail
  go_ret
  exact ⟨by rw [hv.out]; rfl, HB2.out⟩
 subst hm0
 by_cases hl0 : nl = 0
 case neg =>
  have l1 : decide (0 < (nl : Int)) = true := by simp; omega
  have l2 : decide (0 < nl) = true := by simp; omega
  have hv : Hid (mayJ validL (.mk 2 b 0 [] names kids) deep = false) := by
   show _ = _
   simp [mayJ, aloneB, show validL [] = true from rfl, HNE.out, hl0]
  have HB := Lib.hid ((Below.refl w.heap.size w).alloc (Nat.le_refl _) (.cells #[.int .i64 2, .bool b, .int .i64 0, .string ⟨#[]⟩, .slice NA nl nc, .slice A 0 c] 48))
  have HK1 := Lib.hid (Blk.new w 48 #[.int .i64 2, .bool b, .int .i64 0, .string ⟨#[]⟩, .slice NA nl nc, .slice A 0 c])
  go_enter Tryz.func63, Tryz.ntmps63
  go_upto_region 2 with (fail)
  apply wp_region_lit
  simp only [List.append_eq, List.cons_append, List.nil_append]
  go_wp2_with fail
  refine (cval.out _).mono ?_
  rintro _ w2 ⟨rfl, hb2⟩
  have HX2 := HK1.out.below hb2 HK1.out.lt
  have c0 : w2.cell? ⟨w.heap.size, 0, none⟩ = some (.int .i64 2) := HX2.cell 0
  have c4 : w2.cell? ⟨w.heap.size, 4, none⟩ = some (.slice NA nl nc) := HX2.cell 4
  have c5 : w2.cell? ⟨w.heap.size, 5, none⟩ = some (.slice A 0 c) := HX2.cell 5
  have HB2 := Lib.hid (below_next HB.out hb2)
  have HK2 := Lib.hid HX2
  clear hb2 HX2
  go_wp2_with fail
  go_ret
  exact ⟨by rw [hv.out]; rfl, HB2.out⟩
 subst hl0
 have hv : Hid (mayJ validL (.mk 2 b 0 [] names kids) deep = true) := by
  show _ = _
  simp [mayJ, aloneB, show validL [] = true from rfl, HKE.out, HNE.out]
 have HB := Lib.hid ((Below.refl w.heap.size w).alloc (Nat.le_refl _) (.cells #[.int .i64 2, .bool b, .int .i64 0, .string ⟨#[]⟩, .slice NA 0 nc, .slice A 0 c] 48))
 have HK1 := Lib.hid (Blk.new w 48 #[.int .i64 2, .bool b, .int .i64 0, .string ⟨#[]⟩, .slice NA 0 nc, .slice A 0 c])
 go_enter Tryz.func63, Tryz.ntmps63
 go_upto_region 2 with (fail)
 apply wp_region_lit
 simp only [List.append_eq, List.cons_append, List.nil_append]
 go_wp2_with fail
 refine (cval.out _).mono ?_
 rintro _ w2 ⟨rfl, hb2⟩
 have HX2 := HK1.out.below hb2 HK1.out.lt
 have c0 : w2.cell? ⟨w.heap.size, 0, none⟩ = some (.int .i64 2) := HX2.cell 0
 have c4 : w2.cell? ⟨w.heap.size, 4, none⟩ = some (.slice NA 0 nc) := HX2.cell 4
 have c5 : w2.cell? ⟨w.heap.size, 5, none⟩ = some (.slice A 0 c) := HX2.cell 5
 have HB2 := Lib.hid (below_next HB.out hb2)
 have HK2 := Lib.hid HX2
 clear hb2 HX2
 go_wp2_with fail
 clear HB HK1
 go_loopw [6] (fun iv wr => iv = .int .i64 0 ∧ w2 = wr) (fun iv _ => 0)
 case atStart => exact ⟨rfl, rfl⟩
 case round =>
  obtain ⟨rfl, rfl⟩ := hrel
  go_wp2_with fail
  go_loopw [7] (fun iv wr => iv = .int .i64 0 ∧ w2 = wr) (fun iv _ => 0)
  case atStart => exact ⟨rfl, rfl⟩
  case round =>
   obtain ⟨rfl, rfl⟩ := hrel
   go_wp2_with fail
   go_ret
   exact ⟨by rw [hv.out]; rfl, HB2.out⟩
theorem rmay_3 (b : Bool) (n : Int) (s : List UInt8) (y : ByteArray) (names : List (List UInt8)) (kids : List Jv) (m nl : Nat) (hm : kids.length = m) (hn : names.length = nl) (hy : (⟨s.toArray⟩ : ByteArray) = y) (NA : Option Addr) (nc : Nat) (A : Option Addr) (c : Nat) (w : World) (deep : Nat) (hd8 : deep ≤ 8)
  (cval : Hid (∀ W, CallsB 93 (.string y) (validL s) W))
  (cname : Hid (∀ (p : List UInt8) W, p ∈ names → CallsB 93 (.string ⟨p.toArray⟩) (validL p) W)) (hrn : Hid (Reads w w.heap.size 1 NA names.length (strVs names))) (hnl : nl ≤ 100000)
  (vs : List (List Value)) (hks : Hid (JvsV w 0 kids vs)) (hkr : Hid (Reads w w.heap.size 6 A kids.length vs.flatten)) (hmc : m ≤ 100000) (hok : Hid (∀ x ∈ kids, smJ x ∧ RMayOk x)) :
  Calls Tryz.prog 63 #[.agg #[.int .i64 3, .bool b, .int .i64 n, .string y, .slice NA nl nc, .slice A m c], .int .i64 (deep : Int)] w fun e w' => e = .returned (.bool (mayJ validL (.mk 3 b n s names kids) deep)) ∧ Below w.heap.size w w' := by
 have HM := Lib.hid hm
 have HN := Lib.hid hn
 have HY := Lib.hid hy
 clear hm hn hy
 cases b
 case true =>
  have hv : Hid (mayJ validL (.mk 3 true n s names kids) deep = false) := by
   show _ = _
   simp [mayJ, aloneB]
  have HB := Lib.hid ((Below.refl w.heap.size w).alloc (Nat.le_refl _) (.cells #[.int .i64 3, .bool true, .int .i64 n, .string y, .slice NA nl nc, .slice A m c] 48))
  go_enter Tryz.func63, Tryz.ntmps63
  go_upto_region 2 with (fail)
  apply wp_region_lit
  simp only [List.append_eq, List.cons_append, List.nil_append]
  go_wp2_with fail
  go_ret
  exact ⟨by rw [hv.out]; rfl, HB.out⟩
 by_cases hlo : n < -9007199254740992
 case pos =>
  have f3 : decide (n < -9007199254740992) = true := decide_eq_true hlo
  have hv : Hid (mayJ validL (.mk 3 false n s names kids) deep = false) := by
   show _ = _
   simp [mayJ, aloneB, show ¬ (-9007199254740992 ≤ n ∧ n ≤ 9007199254740992) by omega]
  have HB := Lib.hid ((Below.refl w.heap.size w).alloc (Nat.le_refl _) (.cells #[.int .i64 3, .bool false, .int .i64 n, .string y, .slice NA nl nc, .slice A m c] 48))
  go_enter Tryz.func63, Tryz.ntmps63
  go_upto_region 2 with (fail)
  apply wp_region_lit
  simp only [List.append_eq, List.cons_append, List.nil_append]
  go_wp2_with fail
  go_ret
  exact ⟨by rw [hv.out]; rfl, HB.out⟩
 have f3 : decide (n < -9007199254740992) = false := decide_eq_false hlo
 by_cases hhi : 9007199254740992 < n
 case pos =>
  have f4 : decide (9007199254740992 < n) = true := decide_eq_true hhi
  have hv : Hid (mayJ validL (.mk 3 false n s names kids) deep = false) := by
   show _ = _
   simp [mayJ, aloneB, show ¬ (-9007199254740992 ≤ n ∧ n ≤ 9007199254740992) by omega]
  have HB := Lib.hid ((Below.refl w.heap.size w).alloc (Nat.le_refl _) (.cells #[.int .i64 3, .bool false, .int .i64 n, .string y, .slice NA nl nc, .slice A m c] 48))
  go_enter Tryz.func63, Tryz.ntmps63
  go_upto_region 2 with (fail)
  apply wp_region_lit
  simp only [List.append_eq, List.cons_append, List.nil_append]
  go_wp2_with fail
  go_ret
  exact ⟨by rw [hv.out]; rfl, HB.out⟩
 have f4 : decide (9007199254740992 < n) = false := decide_eq_false hhi
 have hrn2 : -9007199254740992 ≤ n ∧ n ≤ 9007199254740992 := by omega
 clear hlo hhi
 by_cases hs0 : s = []
 case neg =>
  obtain ⟨g1, g2, g3, g4⟩ := str_not HY.out hs0
  have hv : Hid (mayJ validL (.mk 3 false n s names kids) deep = false) := by
   show _ = _
   simp [mayJ, aloneB, hs0, hrn2.1, hrn2.2]
  have HB := Lib.hid ((Below.refl w.heap.size w).alloc (Nat.le_refl _) (.cells #[.int .i64 3, .bool false, .int .i64 n, .string y, .slice NA nl nc, .slice A m c] 48))
  go_enter Tryz.func63, Tryz.ntmps63
  go_upto_region 2 with (fail)
  apply wp_region_lit
  simp only [List.append_eq, List.cons_append, List.nil_append]
  go_wp2_with fail
  go_ret
  exact ⟨by rw [hv.out]; rfl, HB.out⟩
 obtain rfl := str_nothing HY.out hs0
 subst hs0
 clear HY
 cases hval : validL []
 case false =>
  have hv : Hid (mayJ validL (.mk 3 false n [] names kids) deep = false) := by
   show _ = _
   simp [mayJ, aloneB, hval, hrn2.1, hrn2.2]
  rw [hval] at cval
  clear hval
  have HB := Lib.hid ((Below.refl w.heap.size w).alloc (Nat.le_refl _) (.cells #[.int .i64 3, .bool false, .int .i64 n, .string ⟨#[]⟩, .slice NA nl nc, .slice A m c] 48))
  have HK1 := Lib.hid (Blk.new w 48 #[.int .i64 3, .bool false, .int .i64 n, .string ⟨#[]⟩, .slice NA nl nc, .slice A m c])
  go_enter Tryz.func63, Tryz.ntmps63
  go_upto_region 2 with (fail)
  apply wp_region_lit
  simp only [List.append_eq, List.cons_append, List.nil_append]
  go_wp2_with fail
  refine (cval.out _).mono ?_
  rintro _ w2 ⟨rfl, hb2⟩
  have HX2 := HK1.out.below hb2 HK1.out.lt
  have c0 : w2.cell? ⟨w.heap.size, 0, none⟩ = some (.int .i64 3) := HX2.cell 0
  have c4 : w2.cell? ⟨w.heap.size, 4, none⟩ = some (.slice NA nl nc) := HX2.cell 4
  have c5 : w2.cell? ⟨w.heap.size, 5, none⟩ = some (.slice A m c) := HX2.cell 5
  have HB2 := Lib.hid (below_next HB.out hb2)
  have HK2 := Lib.hid HX2
  clear hb2 HX2
  go_wp2_with fail
  go_ret
  exact ⟨by rw [hv.out]; rfl, HB2.out⟩
 rw [hval] at cval
 clear hval
 have HKE : Hid (kids.isEmpty = decide (m = 0)) := by show _ = _; rw [← HM.out]; cases kids <;> simp
 have HNE : Hid (names.isEmpty = decide (nl = 0)) := by show _ = _; rw [← HN.out]; cases names <;> simp
 by_cases hm0 : m = 0
 case neg =>
  have k1 : decide (0 < (m : Int)) = true := by simp; omega
  have k2 : decide (0 < m) = true := by simp; omega
  have hv : Hid (mayJ validL (.mk 3 false n [] names kids) deep = false) := by
   show _ = _
   simp [mayJ, aloneB, hrn2.1, hrn2.2, show validL [] = true from rfl, HKE.out, hm0]
  have HB := Lib.hid ((Below.refl w.heap.size w).alloc (Nat.le_refl _) (.cells #[.int .i64 3, .bool false, .int .i64 n, .string ⟨#[]⟩, .slice NA nl nc, .slice A m c] 48))
  have HK1 := Lib.hid (Blk.new w 48 #[.int .i64 3, .bool false, .int .i64 n, .string ⟨#[]⟩, .slice NA nl nc, .slice A m c])
  go_enter Tryz.func63, Tryz.ntmps63
  go_upto_region 2 with (fail)
  apply wp_region_lit
  simp only [List.append_eq, List.cons_append, List.nil_append]
  go_wp2_with fail
  refine (cval.out _).mono ?_
  rintro _ w2 ⟨rfl, hb2⟩
  have HX2 := HK1.out.below hb2 HK1.out.lt
  have c0 : w2.cell? ⟨w.heap.size, 0, none⟩ = some (.int .i64 3) := HX2.cell 0
  have c4 : w2.cell? ⟨w.heap.size, 4, none⟩ = some (.slice NA nl nc) := HX2.cell 4
  have c5 : w2.cell? ⟨w.heap.size, 5, none⟩ = some (.slice A m c) := HX2.cell 5
  have HB2 := Lib.hid (below_next HB.out hb2)
  have HK2 := Lib.hid HX2
  clear hb2 HX2
  go_wp2_with fail
  go_ret
  exact ⟨by rw [hv.out]; rfl, HB2.out⟩
 subst hm0
 by_cases hl0 : nl = 0
 case neg =>
  have l1 : decide (0 < (nl : Int)) = true := by simp; omega
  have l2 : decide (0 < nl) = true := by simp; omega
  have hv : Hid (mayJ validL (.mk 3 false n [] names kids) deep = false) := by
   show _ = _
   simp [mayJ, aloneB, hrn2.1, hrn2.2, show validL [] = true from rfl, HNE.out, hl0]
  have HB := Lib.hid ((Below.refl w.heap.size w).alloc (Nat.le_refl _) (.cells #[.int .i64 3, .bool false, .int .i64 n, .string ⟨#[]⟩, .slice NA nl nc, .slice A 0 c] 48))
  have HK1 := Lib.hid (Blk.new w 48 #[.int .i64 3, .bool false, .int .i64 n, .string ⟨#[]⟩, .slice NA nl nc, .slice A 0 c])
  go_enter Tryz.func63, Tryz.ntmps63
  go_upto_region 2 with (fail)
  apply wp_region_lit
  simp only [List.append_eq, List.cons_append, List.nil_append]
  go_wp2_with fail
  refine (cval.out _).mono ?_
  rintro _ w2 ⟨rfl, hb2⟩
  have HX2 := HK1.out.below hb2 HK1.out.lt
  have c0 : w2.cell? ⟨w.heap.size, 0, none⟩ = some (.int .i64 3) := HX2.cell 0
  have c4 : w2.cell? ⟨w.heap.size, 4, none⟩ = some (.slice NA nl nc) := HX2.cell 4
  have c5 : w2.cell? ⟨w.heap.size, 5, none⟩ = some (.slice A 0 c) := HX2.cell 5
  have HB2 := Lib.hid (below_next HB.out hb2)
  have HK2 := Lib.hid HX2
  clear hb2 HX2
  go_wp2_with fail
  go_ret
  exact ⟨by rw [hv.out]; rfl, HB2.out⟩
 subst hl0
 have hv : Hid (mayJ validL (.mk 3 false n [] names kids) deep = true) := by
  show _ = _
  simp [mayJ, aloneB, hrn2.1, hrn2.2, show validL [] = true from rfl, HKE.out, HNE.out]
 have HB := Lib.hid ((Below.refl w.heap.size w).alloc (Nat.le_refl _) (.cells #[.int .i64 3, .bool false, .int .i64 n, .string ⟨#[]⟩, .slice NA 0 nc, .slice A 0 c] 48))
 have HK1 := Lib.hid (Blk.new w 48 #[.int .i64 3, .bool false, .int .i64 n, .string ⟨#[]⟩, .slice NA 0 nc, .slice A 0 c])
 go_enter Tryz.func63, Tryz.ntmps63
 go_upto_region 2 with (fail)
 apply wp_region_lit
 simp only [List.append_eq, List.cons_append, List.nil_append]
 go_wp2_with fail
 refine (cval.out _).mono ?_
 rintro _ w2 ⟨rfl, hb2⟩
 have HX2 := HK1.out.below hb2 HK1.out.lt
 have c0 : w2.cell? ⟨w.heap.size, 0, none⟩ = some (.int .i64 3) := HX2.cell 0
 have c4 : w2.cell? ⟨w.heap.size, 4, none⟩ = some (.slice NA 0 nc) := HX2.cell 4
 have c5 : w2.cell? ⟨w.heap.size, 5, none⟩ = some (.slice A 0 c) := HX2.cell 5
 have HB2 := Lib.hid (below_next HB.out hb2)
 have HK2 := Lib.hid HX2
 clear hb2 HX2
 go_wp2_with fail
 clear HB HK1
 go_loopw [6] (fun iv wr => iv = .int .i64 0 ∧ w2 = wr) (fun iv _ => 0)
 case atStart => exact ⟨rfl, rfl⟩
 case round =>
  obtain ⟨rfl, rfl⟩ := hrel
  go_wp2_with fail
  go_loopw [7] (fun iv wr => iv = .int .i64 0 ∧ w2 = wr) (fun iv _ => 0)
  case atStart => exact ⟨rfl, rfl⟩
  case round =>
   obtain ⟨rfl, rfl⟩ := hrel
   go_wp2_with fail
   go_ret
   exact ⟨by rw [hv.out]; rfl, HB2.out⟩
theorem rmay_4 (b : Bool) (n : Int) (s : List UInt8) (y : ByteArray) (names : List (List UInt8)) (kids : List Jv) (m nl : Nat) (hm : kids.length = m) (hn : names.length = nl) (hy : (⟨s.toArray⟩ : ByteArray) = y) (NA : Option Addr) (nc : Nat) (A : Option Addr) (c : Nat) (w : World) (deep : Nat) (hd8 : deep ≤ 8)
  (cval : Hid (∀ W, CallsB 93 (.string y) (validL s) W))
  (cname : Hid (∀ (p : List UInt8) W, p ∈ names → CallsB 93 (.string ⟨p.toArray⟩) (validL p) W)) (hrn : Hid (Reads w w.heap.size 1 NA names.length (strVs names))) (hnl : nl ≤ 100000)
  (vs : List (List Value)) (hks : Hid (JvsV w 0 kids vs)) (hkr : Hid (Reads w w.heap.size 6 A kids.length vs.flatten)) (hmc : m ≤ 100000) (hok : Hid (∀ x ∈ kids, smJ x ∧ RMayOk x)) :
  Calls Tryz.prog 63 #[.agg #[.int .i64 4, .bool b, .int .i64 n, .string y, .slice NA nl nc, .slice A m c], .int .i64 (deep : Int)] w fun e w' => e = .returned (.bool (mayJ validL (.mk 4 b n s names kids) deep)) ∧ Below w.heap.size w w' := by
 have HM := Lib.hid hm
 have HN := Lib.hid hn
 have HY := Lib.hid hy
 clear hm hn hy
 cases b
 case true =>
  have hv : Hid (mayJ validL (.mk 4 true n s names kids) deep = false) := by
   show _ = _
   simp [mayJ, aloneB]
  have HB := Lib.hid ((Below.refl w.heap.size w).alloc (Nat.le_refl _) (.cells #[.int .i64 4, .bool true, .int .i64 n, .string y, .slice NA nl nc, .slice A m c] 48))
  go_enter Tryz.func63, Tryz.ntmps63
  go_upto_region 2 with (fail)
  apply wp_region_lit
  simp only [List.append_eq, List.cons_append, List.nil_append]
  go_wp2_with fail
  go_ret
  exact ⟨by rw [hv.out]; rfl, HB.out⟩
 by_cases hn0 : n = 0
 case neg =>
  have f1 : (n == 0) = false := by simpa using hn0
  have f2 : (n != 0) = true := by simpa using hn0
  have hv : Hid (mayJ validL (.mk 4 false n s names kids) deep = false) := by
   show _ = _
   simp [mayJ, aloneB, hn0]
  have HB := Lib.hid ((Below.refl w.heap.size w).alloc (Nat.le_refl _) (.cells #[.int .i64 4, .bool false, .int .i64 n, .string y, .slice NA nl nc, .slice A m c] 48))
  go_enter Tryz.func63, Tryz.ntmps63
  go_upto_region 2 with (fail)
  apply wp_region_lit
  simp only [List.append_eq, List.cons_append, List.nil_append]
  go_wp2_with fail
  go_ret
  exact ⟨by rw [hv.out]; rfl, HB.out⟩
 subst hn0
 cases hval : validL s
 case false =>
  have hv : Hid (mayJ validL (.mk 4 false 0 s names kids) deep = false) := by
   show _ = _
   simp [mayJ, aloneB, hval]
  rw [hval] at cval
  clear hval
  have HB := Lib.hid ((Below.refl w.heap.size w).alloc (Nat.le_refl _) (.cells #[.int .i64 4, .bool false, .int .i64 0, .string y, .slice NA nl nc, .slice A m c] 48))
  have HK1 := Lib.hid (Blk.new w 48 #[.int .i64 4, .bool false, .int .i64 0, .string y, .slice NA nl nc, .slice A m c])
  go_enter Tryz.func63, Tryz.ntmps63
  go_upto_region 2 with (fail)
  apply wp_region_lit
  simp only [List.append_eq, List.cons_append, List.nil_append]
  go_wp2_with fail
  refine (cval.out _).mono ?_
  rintro _ w2 ⟨rfl, hb2⟩
  have HX2 := HK1.out.below hb2 HK1.out.lt
  have c0 : w2.cell? ⟨w.heap.size, 0, none⟩ = some (.int .i64 4) := HX2.cell 0
  have c4 : w2.cell? ⟨w.heap.size, 4, none⟩ = some (.slice NA nl nc) := HX2.cell 4
  have c5 : w2.cell? ⟨w.heap.size, 5, none⟩ = some (.slice A m c) := HX2.cell 5
  have HB2 := Lib.hid (below_next HB.out hb2)
  have HK2 := Lib.hid HX2
  clear hb2 HX2
  go_wp2_with fail
  go_ret
  exact ⟨by rw [hv.out]; rfl, HB2.out⟩
 rw [hval] at cval
 have HKE : Hid (kids.isEmpty = decide (m = 0)) := by show _ = _; rw [← HM.out]; cases kids <;> simp
 have HNE : Hid (names.isEmpty = decide (nl = 0)) := by show _ = _; rw [← HN.out]; cases names <;> simp
 by_cases hm0 : m = 0
 case neg =>
  have k1 : decide (0 < (m : Int)) = true := by simp; omega
  have k2 : decide (0 < m) = true := by simp; omega
  have hv : Hid (mayJ validL (.mk 4 false 0 s names kids) deep = false) := by
   show _ = _
   simp [mayJ, aloneB, hval, HKE.out, hm0]
  have HB := Lib.hid ((Below.refl w.heap.size w).alloc (Nat.le_refl _) (.cells #[.int .i64 4, .bool false, .int .i64 0, .string y, .slice NA nl nc, .slice A m c] 48))
  have HK1 := Lib.hid (Blk.new w 48 #[.int .i64 4, .bool false, .int .i64 0, .string y, .slice NA nl nc, .slice A m c])
  go_enter Tryz.func63, Tryz.ntmps63
  go_upto_region 2 with (fail)
  apply wp_region_lit
  simp only [List.append_eq, List.cons_append, List.nil_append]
  go_wp2_with fail
  refine (cval.out _).mono ?_
  rintro _ w2 ⟨rfl, hb2⟩
  have HX2 := HK1.out.below hb2 HK1.out.lt
  have c0 : w2.cell? ⟨w.heap.size, 0, none⟩ = some (.int .i64 4) := HX2.cell 0
  have c4 : w2.cell? ⟨w.heap.size, 4, none⟩ = some (.slice NA nl nc) := HX2.cell 4
  have c5 : w2.cell? ⟨w.heap.size, 5, none⟩ = some (.slice A m c) := HX2.cell 5
  have HB2 := Lib.hid (below_next HB.out hb2)
  have HK2 := Lib.hid HX2
  clear hb2 HX2
  go_wp2_with fail
  go_ret
  exact ⟨by rw [hv.out]; rfl, HB2.out⟩
 subst hm0
 by_cases hl0 : nl = 0
 case neg =>
  have l1 : decide (0 < (nl : Int)) = true := by simp; omega
  have l2 : decide (0 < nl) = true := by simp; omega
  have hv : Hid (mayJ validL (.mk 4 false 0 s names kids) deep = false) := by
   show _ = _
   simp [mayJ, aloneB, hval, HNE.out, hl0]
  have HB := Lib.hid ((Below.refl w.heap.size w).alloc (Nat.le_refl _) (.cells #[.int .i64 4, .bool false, .int .i64 0, .string y, .slice NA nl nc, .slice A 0 c] 48))
  have HK1 := Lib.hid (Blk.new w 48 #[.int .i64 4, .bool false, .int .i64 0, .string y, .slice NA nl nc, .slice A 0 c])
  go_enter Tryz.func63, Tryz.ntmps63
  go_upto_region 2 with (fail)
  apply wp_region_lit
  simp only [List.append_eq, List.cons_append, List.nil_append]
  go_wp2_with fail
  refine (cval.out _).mono ?_
  rintro _ w2 ⟨rfl, hb2⟩
  have HX2 := HK1.out.below hb2 HK1.out.lt
  have c0 : w2.cell? ⟨w.heap.size, 0, none⟩ = some (.int .i64 4) := HX2.cell 0
  have c4 : w2.cell? ⟨w.heap.size, 4, none⟩ = some (.slice NA nl nc) := HX2.cell 4
  have c5 : w2.cell? ⟨w.heap.size, 5, none⟩ = some (.slice A 0 c) := HX2.cell 5
  have HB2 := Lib.hid (below_next HB.out hb2)
  have HK2 := Lib.hid HX2
  clear hb2 HX2
  go_wp2_with fail
  go_ret
  exact ⟨by rw [hv.out]; rfl, HB2.out⟩
 subst hl0
 have hv : Hid (mayJ validL (.mk 4 false 0 s names kids) deep = true) := by
  show _ = _
  simp [mayJ, aloneB, hval, HKE.out, HNE.out]
 have HB := Lib.hid ((Below.refl w.heap.size w).alloc (Nat.le_refl _) (.cells #[.int .i64 4, .bool false, .int .i64 0, .string y, .slice NA 0 nc, .slice A 0 c] 48))
 have HK1 := Lib.hid (Blk.new w 48 #[.int .i64 4, .bool false, .int .i64 0, .string y, .slice NA 0 nc, .slice A 0 c])
 go_enter Tryz.func63, Tryz.ntmps63
 go_upto_region 2 with (fail)
 apply wp_region_lit
 simp only [List.append_eq, List.cons_append, List.nil_append]
 go_wp2_with fail
 refine (cval.out _).mono ?_
 rintro _ w2 ⟨rfl, hb2⟩
 have HX2 := HK1.out.below hb2 HK1.out.lt
 have c0 : w2.cell? ⟨w.heap.size, 0, none⟩ = some (.int .i64 4) := HX2.cell 0
 have c4 : w2.cell? ⟨w.heap.size, 4, none⟩ = some (.slice NA 0 nc) := HX2.cell 4
 have c5 : w2.cell? ⟨w.heap.size, 5, none⟩ = some (.slice A 0 c) := HX2.cell 5
 have HB2 := Lib.hid (below_next HB.out hb2)
 have HK2 := Lib.hid HX2
 clear hb2 HX2
 go_wp2_with fail
 clear HB HK1
 go_loopw [6] (fun iv wr => iv = .int .i64 0 ∧ w2 = wr) (fun iv _ => 0)
 case atStart => exact ⟨rfl, rfl⟩
 case round =>
  obtain ⟨rfl, rfl⟩ := hrel
  go_wp2_with fail
  go_loopw [7] (fun iv wr => iv = .int .i64 0 ∧ w2 = wr) (fun iv _ => 0)
  case atStart => exact ⟨rfl, rfl⟩
  case round =>
   obtain ⟨rfl, rfl⟩ := hrel
   go_wp2_with fail
   go_ret
   exact ⟨by rw [hv.out]; rfl, HB2.out⟩
theorem rmay_5 (b : Bool) (n : Int) (s : List UInt8) (y : ByteArray) (names : List (List UInt8)) (kids : List Jv) (m nl : Nat) (hm : kids.length = m) (hn : names.length = nl) (hy : (⟨s.toArray⟩ : ByteArray) = y) (NA : Option Addr) (nc : Nat) (A : Option Addr) (c : Nat) (w : World) (deep : Nat) (hd8 : deep ≤ 8)
  (cval : Hid (∀ W, CallsB 93 (.string y) (validL s) W))
  (cname : Hid (∀ (p : List UInt8) W, p ∈ names → CallsB 93 (.string ⟨p.toArray⟩) (validL p) W)) (hrn : Hid (Reads w w.heap.size 1 NA names.length (strVs names))) (hnl : nl ≤ 100000)
  (vs : List (List Value)) (hks : Hid (JvsV w 0 kids vs)) (hkr : Hid (Reads w w.heap.size 6 A kids.length vs.flatten)) (hmc : m ≤ 100000) (hok : Hid (∀ x ∈ kids, smJ x ∧ RMayOk x)) :
  Calls Tryz.prog 63 #[.agg #[.int .i64 5, .bool b, .int .i64 n, .string y, .slice NA nl nc, .slice A m c], .int .i64 (deep : Int)] w fun e w' => e = .returned (.bool (mayJ validL (.mk 5 b n s names kids) deep)) ∧ Below w.heap.size w w' := by
 have HM := Lib.hid hm
 have HN := Lib.hid hn
 have HY := Lib.hid hy
 clear hm hn hy
 cases b
 case true =>
  have hv : Hid (mayJ validL (.mk 5 true n s names kids) deep = false) := by
   show _ = _
   simp [mayJ, aloneB]
  have HB := Lib.hid ((Below.refl w.heap.size w).alloc (Nat.le_refl _) (.cells #[.int .i64 5, .bool true, .int .i64 n, .string y, .slice NA nl nc, .slice A m c] 48))
  go_enter Tryz.func63, Tryz.ntmps63
  go_upto_region 2 with (fail)
  apply wp_region_lit
  simp only [List.append_eq, List.cons_append, List.nil_append]
  go_wp2_with fail
  go_ret
  exact ⟨by rw [hv.out]; rfl, HB.out⟩
 by_cases hn0 : n = 0
 case neg =>
  have f1 : (n == 0) = false := by simpa using hn0
  have f2 : (n != 0) = true := by simpa using hn0
  have hv : Hid (mayJ validL (.mk 5 false n s names kids) deep = false) := by
   show _ = _
   simp [mayJ, aloneB, hn0]
  have HB := Lib.hid ((Below.refl w.heap.size w).alloc (Nat.le_refl _) (.cells #[.int .i64 5, .bool false, .int .i64 n, .string y, .slice NA nl nc, .slice A m c] 48))
  go_enter Tryz.func63, Tryz.ntmps63
  go_upto_region 2 with (fail)
  apply wp_region_lit
  simp only [List.append_eq, List.cons_append, List.nil_append]
  go_wp2_with fail
  go_ret
  exact ⟨by rw [hv.out]; rfl, HB.out⟩
 subst hn0
 by_cases hs0 : s = []
 case neg =>
  obtain ⟨g1, g2, g3, g4⟩ := str_not HY.out hs0
  have hv : Hid (mayJ validL (.mk 5 false 0 s names kids) deep = false) := by
   show _ = _
   simp [mayJ, aloneB, hs0]
  have HB := Lib.hid ((Below.refl w.heap.size w).alloc (Nat.le_refl _) (.cells #[.int .i64 5, .bool false, .int .i64 0, .string y, .slice NA nl nc, .slice A m c] 48))
  go_enter Tryz.func63, Tryz.ntmps63
  go_upto_region 2 with (fail)
  apply wp_region_lit
  simp only [List.append_eq, List.cons_append, List.nil_append]
  go_wp2_with fail
  go_ret
  exact ⟨by rw [hv.out]; rfl, HB.out⟩
 obtain rfl := str_nothing HY.out hs0
 subst hs0
 clear HY
 cases hval : validL []
 case false =>
  have hv : Hid (mayJ validL (.mk 5 false 0 [] names kids) deep = false) := by
   show _ = _
   simp [mayJ, aloneB, hval]
  rw [hval] at cval
  clear hval
  have HB := Lib.hid ((Below.refl w.heap.size w).alloc (Nat.le_refl _) (.cells #[.int .i64 5, .bool false, .int .i64 0, .string ⟨#[]⟩, .slice NA nl nc, .slice A m c] 48))
  have HK1 := Lib.hid (Blk.new w 48 #[.int .i64 5, .bool false, .int .i64 0, .string ⟨#[]⟩, .slice NA nl nc, .slice A m c])
  go_enter Tryz.func63, Tryz.ntmps63
  go_upto_region 2 with (fail)
  apply wp_region_lit
  simp only [List.append_eq, List.cons_append, List.nil_append]
  go_wp2_with fail
  refine (cval.out _).mono ?_
  rintro _ w2 ⟨rfl, hb2⟩
  have HX2 := HK1.out.below hb2 HK1.out.lt
  have c0 : w2.cell? ⟨w.heap.size, 0, none⟩ = some (.int .i64 5) := HX2.cell 0
  have c4 : w2.cell? ⟨w.heap.size, 4, none⟩ = some (.slice NA nl nc) := HX2.cell 4
  have c5 : w2.cell? ⟨w.heap.size, 5, none⟩ = some (.slice A m c) := HX2.cell 5
  have HB2 := Lib.hid (below_next HB.out hb2)
  have HK2 := Lib.hid HX2
  clear hb2 HX2
  go_wp2_with fail
  go_ret
  exact ⟨by rw [hv.out]; rfl, HB2.out⟩
 rw [hval] at cval
 clear hval
 have HKE : Hid (kids.isEmpty = decide (m = 0)) := by show _ = _; rw [← HM.out]; cases kids <;> simp
 have HNE : Hid (names.isEmpty = decide (nl = 0)) := by show _ = _; rw [← HN.out]; cases names <;> simp
 by_cases hd : deep < 8
 case neg =>
  have k1 : decide (8 ≤ (deep : Int)) = true := by simp; omega
  have k2 : decide (8 ≤ deep) = true := by simp; omega
  have hv : Hid (mayJ validL (.mk 5 false 0 [] names kids) deep = false) := by
   show _ = _
   simp [mayJ, aloneB, show validL [] = true from rfl, hd]
  have HB := Lib.hid ((Below.refl w.heap.size w).alloc (Nat.le_refl _) (.cells #[.int .i64 5, .bool false, .int .i64 0, .string ⟨#[]⟩, .slice NA nl nc, .slice A m c] 48))
  have HK1 := Lib.hid (Blk.new w 48 #[.int .i64 5, .bool false, .int .i64 0, .string ⟨#[]⟩, .slice NA nl nc, .slice A m c])
  go_enter Tryz.func63, Tryz.ntmps63
  go_upto_region 2 with (fail)
  apply wp_region_lit
  simp only [List.append_eq, List.cons_append, List.nil_append]
  go_wp2_with fail
  refine (cval.out _).mono ?_
  rintro _ w2 ⟨rfl, hb2⟩
  have HX2 := HK1.out.below hb2 HK1.out.lt
  have c0 : w2.cell? ⟨w.heap.size, 0, none⟩ = some (.int .i64 5) := HX2.cell 0
  have c4 : w2.cell? ⟨w.heap.size, 4, none⟩ = some (.slice NA nl nc) := HX2.cell 4
  have c5 : w2.cell? ⟨w.heap.size, 5, none⟩ = some (.slice A m c) := HX2.cell 5
  have HB2 := Lib.hid (below_next HB.out hb2)
  have HK2 := Lib.hid HX2
  clear hb2 HX2
  go_wp2_with fail
  go_ret
  exact ⟨by rw [hv.out]; rfl, HB2.out⟩
 have k1 : decide (8 ≤ (deep : Int)) = false := by simp; omega
 have k2 : decide (8 ≤ deep) = false := by simp; omega
 by_cases hl0 : nl = 0
 case neg =>
  have l1 : decide (0 < (nl : Int)) = true := by simp; omega
  have l2 : decide (0 < nl) = true := by simp; omega
  have hv : Hid (mayJ validL (.mk 5 false 0 [] names kids) deep = false) := by
   show _ = _
   simp [mayJ, aloneB, show validL [] = true from rfl, HNE.out, hl0]
  have HB := Lib.hid ((Below.refl w.heap.size w).alloc (Nat.le_refl _) (.cells #[.int .i64 5, .bool false, .int .i64 0, .string ⟨#[]⟩, .slice NA nl nc, .slice A m c] 48))
  have HK1 := Lib.hid (Blk.new w 48 #[.int .i64 5, .bool false, .int .i64 0, .string ⟨#[]⟩, .slice NA nl nc, .slice A m c])
  go_enter Tryz.func63, Tryz.ntmps63
  go_upto_region 2 with (fail)
  apply wp_region_lit
  simp only [List.append_eq, List.cons_append, List.nil_append]
  go_wp2_with fail
  refine (cval.out _).mono ?_
  rintro _ w2 ⟨rfl, hb2⟩
  have HX2 := HK1.out.below hb2 HK1.out.lt
  have c0 : w2.cell? ⟨w.heap.size, 0, none⟩ = some (.int .i64 5) := HX2.cell 0
  have c4 : w2.cell? ⟨w.heap.size, 4, none⟩ = some (.slice NA nl nc) := HX2.cell 4
  have c5 : w2.cell? ⟨w.heap.size, 5, none⟩ = some (.slice A m c) := HX2.cell 5
  have HB2 := Lib.hid (below_next HB.out hb2)
  have HK2 := Lib.hid HX2
  clear hb2 HX2
  go_wp2_with fail
  go_ret
  exact ⟨by rw [hv.out]; rfl, HB2.out⟩
 subst hl0
 have hv : Hid (mayJ validL (.mk 5 false 0 [] names kids) deep = mayJs validL kids (deep + 1)) := by
  show _ = _
  simp [mayJ, aloneB, show validL [] = true from rfl, HKE.out, HNE.out, hd]
 have HB := Lib.hid ((Below.refl w.heap.size w).alloc (Nat.le_refl _) (.cells #[.int .i64 5, .bool false, .int .i64 0, .string ⟨#[]⟩, .slice NA 0 nc, .slice A m c] 48))
 have HK1 := Lib.hid (Blk.new w 48 #[.int .i64 5, .bool false, .int .i64 0, .string ⟨#[]⟩, .slice NA 0 nc, .slice A m c])
 go_enter Tryz.func63, Tryz.ntmps63
 go_upto_region 2 with (fail)
 apply wp_region_lit
 simp only [List.append_eq, List.cons_append, List.nil_append]
 go_wp2_with fail
 refine (cval.out _).mono ?_
 rintro _ w2 ⟨rfl, hb2⟩
 have HX2 := HK1.out.below hb2 HK1.out.lt
 have c0 : w2.cell? ⟨w.heap.size, 0, none⟩ = some (.int .i64 5) := HX2.cell 0
 have c4 : w2.cell? ⟨w.heap.size, 4, none⟩ = some (.slice NA 0 nc) := HX2.cell 4
 have c5 : w2.cell? ⟨w.heap.size, 5, none⟩ = some (.slice A m c) := HX2.cell 5
 have HB2 := Lib.hid (below_next HB.out hb2)
 have HK2 := Lib.hid HX2
 clear hb2 HX2
 go_wp2_with fail
 clear HB HK1
 go_loopw [6] (fun iv wr => iv = .int .i64 0 ∧ w2 = wr) (fun iv _ => 0)
 case atStart => exact ⟨rfl, rfl⟩
 case round =>
  obtain ⟨rfl, rfl⟩ := hrel
  go_wp2_with fail
  go_loopw [7] (fun iv wr => ∃ j : Nat, j ≤ m ∧ iv = .int .i64 j ∧ Hid (∀ t k, t < j → kids[t]? = some k → mayJ validL k (deep + 1) = true) ∧ Hid (Below w.heap.size w wr) ∧ Hid (Blk wr w.heap.size 48 #[.int .i64 5, .bool false, .int .i64 0, .string ⟨#[]⟩, .slice NA 0 nc, .slice A m c])) (fun iv _ => m - (intOf iv).toNat)
  case atStart => exact ⟨0, by omega, rfl, fun t k ht => by omega, HB2, HK2⟩
  case round =>
   clear HB2 HK2 c5 c4 c0
   obtain ⟨j, hj, rfl, hyes, hB, hK⟩ := hrel
   have c5 : wr.cell? ⟨w.heap.size, 5, none⟩ = some (.slice A m c) := hK.out.cell 5
   by_cases hlt : j < m
   case pos =>
    obtain ⟨kd, hkd⟩ : ∃ a, kids[j]? = some a := ⟨kids[j]'(by rw [HM.out]; exact hlt), List.getElem?_eq_getElem _⟩
    obtain ⟨ad, v, rfl, hva, hcv⟩ := jkid_at hks.out hkr.out hkd
    have hadl := reads_near hkr.out (by rw [HM.out]; omega) rfl
    have hcv2 : ∀ t x, v[t]? = some x → wr.cell? ((ad.add (j * 6)).add t) = some x := fun t x hx => (hB.out.cell (by rw [block_of_add, block_of_add]; exact hadl)).trans (hcv t x hx)
    obtain ⟨hsk, hrk⟩ := hok.out kd (List.mem_of_getElem? hkd)
    have cp := hrk v (deep + 1) wr hsk (by omega) (hva.below hB.out)
    rw [show ((deep + 1 : Nat) : Int) = (deep : Int) + 1 by omega] at cp
    have CP := Lib.hid cp
    obtain ⟨k1, b1, n1, s1, NA1, nn1, nc1, A1, m1, c1, rfl⟩ := hva.form
    have HC1 := Lib.hid hcv2
    clear hcv hcv2 hva cp
    go_wp2_with (refine wpList_load_at rfl 48 _ rfl (ad.add (j * 6)) rfl [.int .i64 k1, .bool b1, .int .i64 n1, .string s1, .slice NA1 nn1 nc1, .slice A1 m1 c1] _ HC1.out Tryz.underlying48 rfl jv_size ?_)
    refine CP.out.mono ?_
    rintro _ w3 ⟨rfl, hb3⟩
    have HB3 := Lib.hid (below_next hB.out hb3)
    have HK3 := Lib.hid (hK.out.below hb3 hK.out.lt)
    clear hb3
    cases hmy : mayJ validL kd (deep + 1)
    case false =>
     have hv2 : Hid (mayJ validL (.mk 5 false 0 [] names kids) deep = false) := by show _ = _; rw [hv.out, mayJs_bad hkd hmy]
     clear hkd hmy
     go_wp2_with fail
     go_ret
     exact ⟨by rw [hv2.out]; rfl, HB3.out⟩
    have HY : Hid (∀ t k, t < j + 1 → kids[t]? = some k → mayJ validL k (deep + 1) = true) := fun t k ht hk => by
     rcases Nat.lt_succ_iff_lt_or_eq.1 ht with h | rfl
     ·
      exact hyes.out t k h hk
     ·
      rw [hkd] at hk; injection hk with e; rw [← e]; exact hmy
    clear hkd hmy
    go_wp2_with fail
    exact ⟨⟨j + 1, by omega, by go_num, HY, HB3, HK3⟩, by simp [intOf]; omega⟩
   obtain rfl : j = m := by omega
   have hv2 : Hid (mayJ validL (.mk 5 false 0 [] names kids) deep = true) := by show _ = _; rw [hv.out, mayJs_good (fun t k ht hk => hyes.out t k (by rw [← HM.out]; exact ht) hk)]
   go_wp2_with fail
   go_ret
   exact ⟨by rw [hv2.out]; rfl, hB.out⟩
theorem rmay_6 (b : Bool) (n : Int) (s : List UInt8) (y : ByteArray) (names : List (List UInt8)) (kids : List Jv) (m nl : Nat) (hm : kids.length = m) (hn : names.length = nl) (hy : (⟨s.toArray⟩ : ByteArray) = y) (NA : Option Addr) (nc : Nat) (A : Option Addr) (c : Nat) (w : World) (deep : Nat) (hd8 : deep ≤ 8)
  (cval : Hid (∀ W, CallsB 93 (.string y) (validL s) W))
  (cname : Hid (∀ (p : List UInt8) W, p ∈ names → CallsB 93 (.string ⟨p.toArray⟩) (validL p) W)) (hrn : Hid (Reads w w.heap.size 1 NA names.length (strVs names))) (hnl : nl ≤ 100000)
  (vs : List (List Value)) (hks : Hid (JvsV w 0 kids vs)) (hkr : Hid (Reads w w.heap.size 6 A kids.length vs.flatten)) (hmc : m ≤ 100000) (hok : Hid (∀ x ∈ kids, smJ x ∧ RMayOk x)) :
  Calls Tryz.prog 63 #[.agg #[.int .i64 6, .bool b, .int .i64 n, .string y, .slice NA nl nc, .slice A m c], .int .i64 (deep : Int)] w fun e w' => e = .returned (.bool (mayJ validL (.mk 6 b n s names kids) deep)) ∧ Below w.heap.size w w' := by
 have HM := Lib.hid hm
 have HN := Lib.hid hn
 have HY := Lib.hid hy
 clear hm hn hy
 cases b
 case true =>
  have hv : Hid (mayJ validL (.mk 6 true n s names kids) deep = false) := by
   show _ = _
   simp [mayJ, aloneB]
  have HB := Lib.hid ((Below.refl w.heap.size w).alloc (Nat.le_refl _) (.cells #[.int .i64 6, .bool true, .int .i64 n, .string y, .slice NA nl nc, .slice A m c] 48))
  go_enter Tryz.func63, Tryz.ntmps63
  go_upto_region 2 with (fail)
  apply wp_region_lit
  simp only [List.append_eq, List.cons_append, List.nil_append]
  go_wp2_with fail
  go_ret
  exact ⟨by rw [hv.out]; rfl, HB.out⟩
 by_cases hn0 : n = 0
 case neg =>
  have f1 : (n == 0) = false := by simpa using hn0
  have f2 : (n != 0) = true := by simpa using hn0
  have hv : Hid (mayJ validL (.mk 6 false n s names kids) deep = false) := by
   show _ = _
   simp [mayJ, aloneB, hn0]
  have HB := Lib.hid ((Below.refl w.heap.size w).alloc (Nat.le_refl _) (.cells #[.int .i64 6, .bool false, .int .i64 n, .string y, .slice NA nl nc, .slice A m c] 48))
  go_enter Tryz.func63, Tryz.ntmps63
  go_upto_region 2 with (fail)
  apply wp_region_lit
  simp only [List.append_eq, List.cons_append, List.nil_append]
  go_wp2_with fail
  go_ret
  exact ⟨by rw [hv.out]; rfl, HB.out⟩
 subst hn0
 by_cases hs0 : s = []
 case neg =>
  obtain ⟨g1, g2, g3, g4⟩ := str_not HY.out hs0
  have hv : Hid (mayJ validL (.mk 6 false 0 s names kids) deep = false) := by
   show _ = _
   simp [mayJ, aloneB, hs0]
  have HB := Lib.hid ((Below.refl w.heap.size w).alloc (Nat.le_refl _) (.cells #[.int .i64 6, .bool false, .int .i64 0, .string y, .slice NA nl nc, .slice A m c] 48))
  go_enter Tryz.func63, Tryz.ntmps63
  go_upto_region 2 with (fail)
  apply wp_region_lit
  simp only [List.append_eq, List.cons_append, List.nil_append]
  go_wp2_with fail
  go_ret
  exact ⟨by rw [hv.out]; rfl, HB.out⟩
 obtain rfl := str_nothing HY.out hs0
 subst hs0
 clear HY
 cases hval : validL []
 case false =>
  have hv : Hid (mayJ validL (.mk 6 false 0 [] names kids) deep = false) := by
   show _ = _
   simp [mayJ, aloneB, hval]
  rw [hval] at cval
  clear hval
  have HB := Lib.hid ((Below.refl w.heap.size w).alloc (Nat.le_refl _) (.cells #[.int .i64 6, .bool false, .int .i64 0, .string ⟨#[]⟩, .slice NA nl nc, .slice A m c] 48))
  have HK1 := Lib.hid (Blk.new w 48 #[.int .i64 6, .bool false, .int .i64 0, .string ⟨#[]⟩, .slice NA nl nc, .slice A m c])
  go_enter Tryz.func63, Tryz.ntmps63
  go_upto_region 2 with (fail)
  apply wp_region_lit
  simp only [List.append_eq, List.cons_append, List.nil_append]
  go_wp2_with fail
  refine (cval.out _).mono ?_
  rintro _ w2 ⟨rfl, hb2⟩
  have HX2 := HK1.out.below hb2 HK1.out.lt
  have c0 : w2.cell? ⟨w.heap.size, 0, none⟩ = some (.int .i64 6) := HX2.cell 0
  have c4 : w2.cell? ⟨w.heap.size, 4, none⟩ = some (.slice NA nl nc) := HX2.cell 4
  have c5 : w2.cell? ⟨w.heap.size, 5, none⟩ = some (.slice A m c) := HX2.cell 5
  have HB2 := Lib.hid (below_next HB.out hb2)
  have HK2 := Lib.hid HX2
  clear hb2 HX2
  go_wp2_with fail
  go_ret
  exact ⟨by rw [hv.out]; rfl, HB2.out⟩
 rw [hval] at cval
 clear hval
 have HKE : Hid (kids.isEmpty = decide (m = 0)) := by show _ = _; rw [← HM.out]; cases kids <;> simp
 have HNE : Hid (names.isEmpty = decide (nl = 0)) := by show _ = _; rw [← HN.out]; cases names <;> simp
 by_cases hd : deep < 8
 case neg =>
  have k1 : decide (8 ≤ (deep : Int)) = true := by simp; omega
  have k2 : decide (8 ≤ deep) = true := by simp; omega
  have hv : Hid (mayJ validL (.mk 6 false 0 [] names kids) deep = false) := by
   show _ = _
   simp [mayJ, aloneB, show validL [] = true from rfl, hd]
  have HB := Lib.hid ((Below.refl w.heap.size w).alloc (Nat.le_refl _) (.cells #[.int .i64 6, .bool false, .int .i64 0, .string ⟨#[]⟩, .slice NA nl nc, .slice A m c] 48))
  have HK1 := Lib.hid (Blk.new w 48 #[.int .i64 6, .bool false, .int .i64 0, .string ⟨#[]⟩, .slice NA nl nc, .slice A m c])
  go_enter Tryz.func63, Tryz.ntmps63
  go_upto_region 2 with (fail)
  apply wp_region_lit
  simp only [List.append_eq, List.cons_append, List.nil_append]
  go_wp2_with fail
  refine (cval.out _).mono ?_
  rintro _ w2 ⟨rfl, hb2⟩
  have HX2 := HK1.out.below hb2 HK1.out.lt
  have c0 : w2.cell? ⟨w.heap.size, 0, none⟩ = some (.int .i64 6) := HX2.cell 0
  have c4 : w2.cell? ⟨w.heap.size, 4, none⟩ = some (.slice NA nl nc) := HX2.cell 4
  have c5 : w2.cell? ⟨w.heap.size, 5, none⟩ = some (.slice A m c) := HX2.cell 5
  have HB2 := Lib.hid (below_next HB.out hb2)
  have HK2 := Lib.hid HX2
  clear hb2 HX2
  go_wp2_with fail
  go_ret
  exact ⟨by rw [hv.out]; rfl, HB2.out⟩
 have k1 : decide (8 ≤ (deep : Int)) = false := by simp; omega
 have k2 : decide (8 ≤ deep) = false := by simp; omega
 by_cases hl0 : nl = m
 case neg =>
  have l1 : ((nl : Int) == (m : Int)) = false := by simp; omega
  have l2 : ((nl : Int) != (m : Int)) = true := by simp; omega
  have hv : Hid (mayJ validL (.mk 6 false 0 [] names kids) deep = false) := by
   show _ = _
   simp [mayJ, aloneB, show validL [] = true from rfl, HM.out, HN.out, hl0]
  have HB := Lib.hid ((Below.refl w.heap.size w).alloc (Nat.le_refl _) (.cells #[.int .i64 6, .bool false, .int .i64 0, .string ⟨#[]⟩, .slice NA nl nc, .slice A m c] 48))
  have HK1 := Lib.hid (Blk.new w 48 #[.int .i64 6, .bool false, .int .i64 0, .string ⟨#[]⟩, .slice NA nl nc, .slice A m c])
  go_enter Tryz.func63, Tryz.ntmps63
  go_upto_region 2 with (fail)
  apply wp_region_lit
  simp only [List.append_eq, List.cons_append, List.nil_append]
  go_wp2_with fail
  refine (cval.out _).mono ?_
  rintro _ w2 ⟨rfl, hb2⟩
  have HX2 := HK1.out.below hb2 HK1.out.lt
  have c0 : w2.cell? ⟨w.heap.size, 0, none⟩ = some (.int .i64 6) := HX2.cell 0
  have c4 : w2.cell? ⟨w.heap.size, 4, none⟩ = some (.slice NA nl nc) := HX2.cell 4
  have c5 : w2.cell? ⟨w.heap.size, 5, none⟩ = some (.slice A m c) := HX2.cell 5
  have HB2 := Lib.hid (below_next HB.out hb2)
  have HK2 := Lib.hid HX2
  clear hb2 HX2
  go_wp2_with fail
  go_ret
  exact ⟨by rw [hv.out]; rfl, HB2.out⟩
 have l1 : ((nl : Int) == (m : Int)) = true := by simp; omega
 have l2 : ((nl : Int) != (m : Int)) = false := by simp; omega
 have HL := Lib.hid hl0
 clear hl0
 have hv : Hid (mayJ validL (.mk 6 false 0 [] names kids) deep = (namesB names kids.length && mayJs validL kids (deep + 1))) := by
  show _ = _
  simp [mayJ, aloneB, show validL [] = true from rfl, hd, namesB]
 have HB := Lib.hid ((Below.refl w.heap.size w).alloc (Nat.le_refl _) (.cells #[.int .i64 6, .bool false, .int .i64 0, .string ⟨#[]⟩, .slice NA nl nc, .slice A m c] 48))
 have HK1 := Lib.hid (Blk.new w 48 #[.int .i64 6, .bool false, .int .i64 0, .string ⟨#[]⟩, .slice NA nl nc, .slice A m c])
 go_enter Tryz.func63, Tryz.ntmps63
 go_upto_region 2 with (fail)
 apply wp_region_lit
 simp only [List.append_eq, List.cons_append, List.nil_append]
 go_wp2_with fail
 refine (cval.out _).mono ?_
 rintro _ w2 ⟨rfl, hb2⟩
 have HX2 := HK1.out.below hb2 HK1.out.lt
 have c0 : w2.cell? ⟨w.heap.size, 0, none⟩ = some (.int .i64 6) := HX2.cell 0
 have c4 : w2.cell? ⟨w.heap.size, 4, none⟩ = some (.slice NA nl nc) := HX2.cell 4
 have c5 : w2.cell? ⟨w.heap.size, 5, none⟩ = some (.slice A m c) := HX2.cell 5
 have HB2 := Lib.hid (below_next HB.out hb2)
 have HK2 := Lib.hid HX2
 clear hb2 HX2
 go_wp2_with fail
 clear HB HK1
 go_loopw [6] (fun iv wr => ∃ i : Nat, i ≤ nl ∧ iv = .int .i64 i ∧ Hid ((names.take i).Nodup) ∧ Hid ((names.take i).all validL = true) ∧ Hid (Below w.heap.size w wr) ∧ Hid (Blk wr w.heap.size 48 #[.int .i64 6, .bool false, .int .i64 0, .string ⟨#[]⟩, .slice NA nl nc, .slice A m c])) (fun iv _ => nl - (intOf iv).toNat)
 case atStart => exact ⟨0, by omega, rfl, by show List.Nodup _; simp, by show _ = _; simp, HB2, HK2⟩
 case round =>
  clear HB2 HK2 c0 c4 c5
  obtain ⟨i, hi, rfl, hnd, hall, hB, hK⟩ := hrel
  have c4 : wr.cell? ⟨w.heap.size, 4, none⟩ = some (.slice NA nl nc) := hK.out.cell 4
  by_cases hlt : i < nl
  case pos =>
   obtain ⟨ad, q, rfl, hpk, had, hcu⟩ := name_at hrn.out (k := i) (by rw [HN.out]; exact hlt)
   replace hcu := (hB.out.cell (p := ad.add i) (by rw [block_of_add]; exact had)).trans hcu
   have cp := Lib.hid (cname.out q wr (List.mem_of_getElem? hpk))
   cases hvp : validL q
   case false =>
    have hv2 : Hid (mayJ validL (.mk 6 false 0 [] names kids) deep = false) := by show _ = _; rw [hv.out, namesB_bad hpk hvp, Bool.false_and]
    rw [hvp] at cp
    clear hpk hvp
    generalize (⟨q.toArray⟩ : ByteArray) = x at *
    go_wp2_with fail
    refine cp.out.mono ?_
    rintro _ w3 ⟨rfl, hb3⟩
    have HB3 := Lib.hid (below_next hB.out hb3)
    clear hb3
    go_wp2_with fail
    go_ret
    exact ⟨by rw [hv2.out]; rfl, HB3.out⟩
   rw [hvp] at cp
   have ct : Hid (∀ W, Below w.heap.size w W → Calls Tryz.prog 94 #[.slice (some ad) nl nc, .int .i64 (i : Int)] W fun e w' => e = .returned (.bool ((names.take i).contains q)) ∧ ∃ n, w' = W.drewN n) := by
    intro W hW
    have h := twice_walk (some ad) nc W.heap.size names i q hpk W ((hrn.out.below hW).more hW.size) (by rw [HN.out]; omega)
    rw [HN.out] at h
    exact h
   cases hcn : (names.take i).contains q
   case true =>
    have hv2 : Hid (mayJ validL (.mk 6 false 0 [] names kids) deep = false) := by show _ = _; rw [hv.out, namesB_twice hpk hcn, Bool.false_and]
    rw [hcn] at ct
    clear hpk hvp hcn
    generalize (⟨q.toArray⟩ : ByteArray) = x at *
    go_wp2_with fail
    refine cp.out.mono ?_
    rintro _ w3 ⟨rfl, hb3⟩
    have HB3 := Lib.hid (below_next hB.out hb3)
    have hK3 := hK.out.below hb3 hK.out.lt
    have c43 : w3.cell? ⟨w.heap.size, 4, none⟩ = some (.slice (some ad) nl nc) := hK3.cell 4
    clear hb3 hK3
    go_wp2_with fail
    refine (ct.out _ HB3.out).mono ?_
    rintro _ w4 ⟨rfl, n4, rfl⟩
    go_wp2_with fail
    go_ret
    exact ⟨by rw [hv2.out]; rfl, dnN HB3.out n4⟩
   have HND := Lib.hid (nodup_snoc hpk hcn hnd.out)
   have HALL := Lib.hid (all_snoc hpk hvp hall.out)
   rw [hcn] at ct
   clear hpk hvp hcn
   generalize (⟨q.toArray⟩ : ByteArray) = x at *
   go_wp2_with fail
   refine cp.out.mono ?_
   rintro _ w3 ⟨rfl, hb3⟩
   have HB3 := Lib.hid (below_next hB.out hb3)
   have hK3 := hK.out.below hb3 hK.out.lt
   have HK3 := Lib.hid hK3
   have c43 : w3.cell? ⟨w.heap.size, 4, none⟩ = some (.slice (some ad) nl nc) := hK3.cell 4
   clear hb3 hK3
   go_wp2_with fail
   refine (ct.out _ HB3.out).mono ?_
   rintro _ w4 ⟨rfl, n4, rfl⟩
   have HB4 := Lib.hid (dnN HB3.out n4)
   have HK4 := Lib.hid (HK3.out.drewN n4)
   go_wp2_with fail
   exact ⟨⟨i + 1, by omega, by go_num, HND, HALL, HB4, HK4⟩, by simp [intOf]; omega⟩
  obtain rfl : i = nl := by omega
  have hnb : namesB names kids.length = true := by
   have h1 := hnd.out
   have h2 := hall.out
   rw [← HN.out, List.take_length] at h1 h2
   rw [namesB, h2, decide_eq_true h1, decide_eq_true (by rw [HN.out, HM.out, HL.out])]; rfl
  have hv2 : Hid (mayJ validL (.mk 6 false 0 [] names kids) deep = mayJs validL kids (deep + 1)) := by show _ = _; rw [hv.out, hnb, Bool.true_and]
  clear hnb hv
  have hv := hv2
  clear hv2
  have c5 : wr.cell? ⟨w.heap.size, 5, none⟩ = some (.slice A m c) := hK.out.cell 5
  go_wp2_with fail
  go_loopw [7] (fun iv wr => ∃ j : Nat, j ≤ m ∧ iv = .int .i64 j ∧ Hid (∀ t k, t < j → kids[t]? = some k → mayJ validL k (deep + 1) = true) ∧ Hid (Below w.heap.size w wr) ∧ Hid (Blk wr w.heap.size 48 #[.int .i64 6, .bool false, .int .i64 0, .string ⟨#[]⟩, .slice NA i nc, .slice A m c])) (fun iv _ => m - (intOf iv).toNat)
  case atStart => exact ⟨0, by omega, rfl, fun t k ht => by omega, hB, hK⟩
  case round =>
   clear hB hK c5 c4
   obtain ⟨j, hj, rfl, hyes, hB, hK⟩ := hrel
   have c5 : wr.cell? ⟨w.heap.size, 5, none⟩ = some (.slice A m c) := hK.out.cell 5
   by_cases hlt : j < m
   case pos =>
    obtain ⟨kd, hkd⟩ : ∃ a, kids[j]? = some a := ⟨kids[j]'(by rw [HM.out]; exact hlt), List.getElem?_eq_getElem _⟩
    obtain ⟨ad, v, rfl, hva, hcv⟩ := jkid_at hks.out hkr.out hkd
    have hadl := reads_near hkr.out (by rw [HM.out]; omega) rfl
    have hcv2 : ∀ t x, v[t]? = some x → wr.cell? ((ad.add (j * 6)).add t) = some x := fun t x hx => (hB.out.cell (by rw [block_of_add, block_of_add]; exact hadl)).trans (hcv t x hx)
    obtain ⟨hsk, hrk⟩ := hok.out kd (List.mem_of_getElem? hkd)
    have cp := hrk v (deep + 1) wr hsk (by omega) (hva.below hB.out)
    rw [show ((deep + 1 : Nat) : Int) = (deep : Int) + 1 by omega] at cp
    have CP := Lib.hid cp
    obtain ⟨k1, b1, n1, s1, NA1, nn1, nc1, A1, m1, c1, rfl⟩ := hva.form
    have HC1 := Lib.hid hcv2
    clear hcv hcv2 hva cp
    go_wp2_with (refine wpList_load_at rfl 48 _ rfl (ad.add (j * 6)) rfl [.int .i64 k1, .bool b1, .int .i64 n1, .string s1, .slice NA1 nn1 nc1, .slice A1 m1 c1] _ HC1.out Tryz.underlying48 rfl jv_size ?_)
    refine CP.out.mono ?_
    rintro _ w3 ⟨rfl, hb3⟩
    have HB3 := Lib.hid (below_next hB.out hb3)
    have HK3 := Lib.hid (hK.out.below hb3 hK.out.lt)
    clear hb3
    cases hmy : mayJ validL kd (deep + 1)
    case false =>
     have hv2 : Hid (mayJ validL (.mk 6 false 0 [] names kids) deep = false) := by show _ = _; rw [hv.out, mayJs_bad hkd hmy]
     clear hkd hmy
     go_wp2_with fail
     go_ret
     exact ⟨by rw [hv2.out]; rfl, HB3.out⟩
    have HY : Hid (∀ t k, t < j + 1 → kids[t]? = some k → mayJ validL k (deep + 1) = true) := fun t k ht hk => by
     rcases Nat.lt_succ_iff_lt_or_eq.1 ht with h | rfl
     ·
      exact hyes.out t k h hk
     ·
      rw [hkd] at hk; injection hk with e; rw [← e]; exact hmy
    clear hkd hmy
    go_wp2_with fail
    exact ⟨⟨j + 1, by omega, by go_num, HY, HB3, HK3⟩, by simp [intOf]; omega⟩
   obtain rfl : j = m := by omega
   have hv2 : Hid (mayJ validL (.mk 6 false 0 [] names kids) deep = true) := by show _ = _; rw [hv.out, mayJs_good (fun t k ht hk => hyes.out t k (by rw [← HM.out]; exact ht) hk)]
   go_wp2_with fail
   go_ret
   exact ⟨by rw [hv2.out]; rfl, hB.out⟩
end Go.Proofs.YtnhjgocdepbajaaGreat

/- json.alone: may a value be, but for its kids? Printed by genJl.py. Condition: small values. -/
import Derived.Test.YtieppmppdmcleaaGreatDoorBE
set_option linter.unusedVariables false
set_option linter.unusedSimpArgs false
set_option maxRecDepth 20000
set_option maxHeartbeats 8000000
namespace Go.Proofs.YtieppmppdmcleaaGreatDoor
open Go.RowKit Go.Maps
theorem str_not {s : List UInt8} {y : ByteArray} (hy : (⟨s.toArray⟩ : ByteArray) = y) (h : ¬ s = []) : y.toList.isEmpty = false ∧ ¬ y.toList = [] ∧ (y.toList == []) = false ∧ (y.toList != []) = true := by
 subst hy
 have e : (⟨s.toArray⟩ : ByteArray).toList = s := by rw [ByteArray.toList_eq]
 rw [e]
 refine ⟨by simpa using h, h, by simpa using h, by simpa using h⟩
theorem str_nothing {s : List UInt8} {y : ByteArray} (hy : (⟨s.toArray⟩ : ByteArray) = y) (h : s = []) : y = ⟨#[]⟩ := by subst h; exact hy.symm
def CallsB (F : FuncId) (a : Value) (r : Bool) (W : World) : Prop := Calls Tryz.prog F #[a] W fun e w' => e = .returned (.bool r) ∧ Below W.heap.size W w'
theorem alone_low (k : Int) (hk : k < 1) (b : Bool) (n : Int) (s : List UInt8) (y : ByteArray) (names : List (List UInt8)) (kids : List Jv) (m nl : Nat) (hm : kids.length = m) (hn : names.length = nl) (hy : (⟨s.toArray⟩ : ByteArray) = y) (NA : Option Addr) (nc : Nat) (A : Option Addr) (c : Nat) (w : World)
  (cval : Hid (∀ W, CallsB 114 (.string y) (validL s) W)) (cnam : Hid (∀ W, Below w.heap.size w W → CallsB 115 (.agg #[.int .i64 k, .bool b, .int .i64 n, .string y, .slice NA nl nc, .slice A m c]) (namesB names kids.length) W)) :
  CallsB 87 (.agg #[.int .i64 k, .bool b, .int .i64 n, .string y, .slice NA nl nc, .slice A m c]) (aloneB validL (.mk k b n s names kids)) w := by
 show Calls _ _ _ _ _
 have d1 : decide (k < 1) = true := decide_eq_true hk
 have d2 : (k == 5) = false := by simp; omega
 have d3 : (k == 6) = false := by simp; omega
 have HB := Lib.hid ((Below.refl w.heap.size w).alloc (Nat.le_refl _) (.cells #[.int .i64 k, .bool b, .int .i64 n, .string y, .slice NA nl nc, .slice A m c] 26))
 have hv : Hid (aloneB validL (.mk k b n s names kids) = false) := by
  show _ = _
  simp [aloneB, show ¬ (1 ≤ k ∧ k ≤ 6) by omega]
 clear hm hn hy
 go_enter Tryz.func87, Tryz.ntmps87
 go_wp2_with fail
 go_ret
 exact ⟨by rw [hv.out]; rfl, HB.out⟩
theorem alone_high (k : Int) (hk : 6 < k) (b : Bool) (n : Int) (s : List UInt8) (y : ByteArray) (names : List (List UInt8)) (kids : List Jv) (m nl : Nat) (hm : kids.length = m) (hn : names.length = nl) (hy : (⟨s.toArray⟩ : ByteArray) = y) (NA : Option Addr) (nc : Nat) (A : Option Addr) (c : Nat) (w : World)
  (cval : Hid (∀ W, CallsB 114 (.string y) (validL s) W)) (cnam : Hid (∀ W, Below w.heap.size w W → CallsB 115 (.agg #[.int .i64 k, .bool b, .int .i64 n, .string y, .slice NA nl nc, .slice A m c]) (namesB names kids.length) W)) :
  CallsB 87 (.agg #[.int .i64 k, .bool b, .int .i64 n, .string y, .slice NA nl nc, .slice A m c]) (aloneB validL (.mk k b n s names kids)) w := by
 show Calls _ _ _ _ _
 have d1 : decide (k < 1) = false := decide_eq_false (by omega)
 have d0 : decide (6 < k) = true := decide_eq_true hk
 have d2 : (k == 5) = false := by simp; omega
 have d3 : (k == 6) = false := by simp; omega
 have HB := Lib.hid ((Below.refl w.heap.size w).alloc (Nat.le_refl _) (.cells #[.int .i64 k, .bool b, .int .i64 n, .string y, .slice NA nl nc, .slice A m c] 26))
 have hv : Hid (aloneB validL (.mk k b n s names kids) = false) := by
  show _ = _
  simp [aloneB, show ¬ (1 ≤ k ∧ k ≤ 6) by omega]
 clear hm hn hy
 go_enter Tryz.func87, Tryz.ntmps87
 go_wp2_with fail
 go_ret
 exact ⟨by rw [hv.out]; rfl, HB.out⟩
theorem alone_1 (b : Bool) (n : Int) (s : List UInt8) (y : ByteArray) (names : List (List UInt8)) (kids : List Jv) (m nl : Nat) (hm : kids.length = m) (hn : names.length = nl) (hy : (⟨s.toArray⟩ : ByteArray) = y) (NA : Option Addr) (nc : Nat) (A : Option Addr) (c : Nat) (w : World)
  (cval : Hid (∀ W, CallsB 114 (.string y) (validL s) W)) (cnam : Hid (∀ W, Below w.heap.size w W → CallsB 115 (.agg #[.int .i64 1, .bool b, .int .i64 n, .string y, .slice NA nl nc, .slice A m c]) (namesB names kids.length) W)) :
  CallsB 87 (.agg #[.int .i64 1, .bool b, .int .i64 n, .string y, .slice NA nl nc, .slice A m c]) (aloneB validL (.mk 1 b n s names kids)) w := by
 show Calls _ _ _ _ _
 cases b
 case true =>
  have HB := Lib.hid ((Below.refl w.heap.size w).alloc (Nat.le_refl _) (.cells #[.int .i64 1, .bool true, .int .i64 n, .string y, .slice NA nl nc, .slice A m c] 26))
  have hv : Hid (aloneB validL (.mk 1 true n s names kids) = false) := by
   show _ = _
   simp [aloneB]
  clear hm hn hy
  go_enter Tryz.func87, Tryz.ntmps87
  go_wp2_with fail
  go_ret
  exact ⟨by rw [hv.out]; rfl, HB.out⟩
 by_cases hn0 : n = 0
 case neg =>
  have f1 : (n == 0) = false := by simpa using hn0
  have f2 : (n != 0) = true := by simpa using hn0
  have HB := Lib.hid ((Below.refl w.heap.size w).alloc (Nat.le_refl _) (.cells #[.int .i64 1, .bool false, .int .i64 n, .string y, .slice NA nl nc, .slice A m c] 26))
  have hv : Hid (aloneB validL (.mk 1 false n s names kids) = false) := by
   show _ = _
   simp [aloneB, hn0]
  clear hm hn hy
  go_enter Tryz.func87, Tryz.ntmps87
  go_wp2_with fail
  go_ret
  exact ⟨by rw [hv.out]; rfl, HB.out⟩
 subst hn0
 by_cases hs0 : s = []
 case neg =>
  obtain ⟨g1, g2, g3, g4⟩ := str_not hy hs0
  have HB := Lib.hid ((Below.refl w.heap.size w).alloc (Nat.le_refl _) (.cells #[.int .i64 1, .bool false, .int .i64 0, .string y, .slice NA nl nc, .slice A m c] 26))
  have hv : Hid (aloneB validL (.mk 1 false 0 s names kids) = false) := by
   show _ = _
   simp [aloneB, hs0]
  clear hm hn hy
  go_enter Tryz.func87, Tryz.ntmps87
  go_wp2_with fail
  go_ret
  exact ⟨by rw [hv.out]; rfl, HB.out⟩
 obtain rfl := str_nothing hy hs0
 subst hs0
 clear hy
 have hke : kids.isEmpty = decide (m = 0) := by rw [← hm]; cases kids <;> simp
 have hne : names.isEmpty = decide (nl = 0) := by rw [← hn]; cases names <;> simp
 have HM := Lib.hid (And.intro hm hn)
 clear hm hn
 by_cases hm0 : m = 0
 case neg =>
  have k1 : decide (0 < (m : Int)) = true := by simp; omega
  have k2 : decide (0 < m) = true := by simp; omega
  have HB := Lib.hid ((Below.refl w.heap.size w).alloc (Nat.le_refl _) (.cells #[.int .i64 1, .bool false, .int .i64 0, .string ⟨#[]⟩, .slice NA nl nc, .slice A m c] 26))
  have hv : Hid (aloneB validL (.mk 1 false 0 [] names kids) = false) := by
   show _ = _
   simp [aloneB, hke, hm0]
  clear hke hne
  go_enter Tryz.func87, Tryz.ntmps87
  go_wp2_with fail
  go_ret
  exact ⟨by rw [hv.out]; rfl, HB.out⟩
 subst hm0
 by_cases hl0 : nl = 0
 case neg =>
  have l1 : decide (0 < (nl : Int)) = true := by simp; omega
  have l2 : decide (0 < nl) = true := by simp; omega
  have HB := Lib.hid ((Below.refl w.heap.size w).alloc (Nat.le_refl _) (.cells #[.int .i64 1, .bool false, .int .i64 0, .string ⟨#[]⟩, .slice NA nl nc, .slice A 0 c] 26))
  have hv : Hid (aloneB validL (.mk 1 false 0 [] names kids) = false) := by
   show _ = _
   simp [aloneB, hne, hl0, hke]
  clear hke hne
  go_enter Tryz.func87, Tryz.ntmps87
  go_wp2_with fail
  go_ret
  exact ⟨by rw [hv.out]; rfl, HB.out⟩
 subst hl0
 have HB := Lib.hid ((Below.refl w.heap.size w).alloc (Nat.le_refl _) (.cells #[.int .i64 1, .bool false, .int .i64 0, .string ⟨#[]⟩, .slice NA 0 nc, .slice A 0 c] 26))
 cases hval : validL []
 case false =>
  have hv : Hid (aloneB validL (.mk 1 false 0 [] names kids) = false) := by
   show _ = _
   simp [aloneB, hval, hke, hne]
  rw [hval] at cval
  clear hke hne hval
  go_enter Tryz.func87, Tryz.ntmps87
  go_wp2_with fail
  refine (cval.out _).mono ?_
  rintro _ w2 ⟨rfl, hb2⟩
  have HB2 := Lib.hid (below_next HB.out hb2)
  clear hb2
  go_wp2_with fail
  go_ret
  exact ⟨by rw [hv.out]; rfl, HB2.out⟩
 have hv : Hid (aloneB validL (.mk 1 false 0 [] names kids) = true) := by
  show _ = _
  simp [aloneB, hval, hke, hne]
 rw [hval] at cval
 clear hke hne hval
 go_enter Tryz.func87, Tryz.ntmps87
 go_wp2_with fail
 refine (cval.out _).mono ?_
 rintro _ w2 ⟨rfl, hb2⟩
 have HB2 := Lib.hid (below_next HB.out hb2)
 have HX2 := (Blk.new w 26 #[.int .i64 1, .bool false, .int .i64 0, .string ⟨#[]⟩, .slice NA 0 nc, .slice A 0 c]).below hb2 (by simp)
 have c0 : w2.cell? ⟨w.heap.size, 0, none⟩ = some (.int .i64 1) := HX2.cell 0
 clear hb2 HX2
 go_wp2_with fail
 go_ret
 exact ⟨by rw [hv.out]; rfl, HB2.out⟩
theorem alone_2 (b : Bool) (n : Int) (s : List UInt8) (y : ByteArray) (names : List (List UInt8)) (kids : List Jv) (m nl : Nat) (hm : kids.length = m) (hn : names.length = nl) (hy : (⟨s.toArray⟩ : ByteArray) = y) (NA : Option Addr) (nc : Nat) (A : Option Addr) (c : Nat) (w : World)
  (cval : Hid (∀ W, CallsB 114 (.string y) (validL s) W)) (cnam : Hid (∀ W, Below w.heap.size w W → CallsB 115 (.agg #[.int .i64 2, .bool b, .int .i64 n, .string y, .slice NA nl nc, .slice A m c]) (namesB names kids.length) W)) :
  CallsB 87 (.agg #[.int .i64 2, .bool b, .int .i64 n, .string y, .slice NA nl nc, .slice A m c]) (aloneB validL (.mk 2 b n s names kids)) w := by
 show Calls _ _ _ _ _
 cases b
 case true =>
  by_cases hn0 : n = 0
  case neg =>
   have f1 : (n == 0) = false := by simpa using hn0
   have f2 : (n != 0) = true := by simpa using hn0
   have HB := Lib.hid ((Below.refl w.heap.size w).alloc (Nat.le_refl _) (.cells #[.int .i64 2, .bool true, .int .i64 n, .string y, .slice NA nl nc, .slice A m c] 26))
   have hv : Hid (aloneB validL (.mk 2 true n s names kids) = false) := by
    show _ = _
    simp [aloneB, hn0]
   clear hm hn hy
   go_enter Tryz.func87, Tryz.ntmps87
   go_wp2_with fail
   go_ret
   exact ⟨by rw [hv.out]; rfl, HB.out⟩
  subst hn0
  by_cases hs0 : s = []
  case neg =>
   obtain ⟨g1, g2, g3, g4⟩ := str_not hy hs0
   have HB := Lib.hid ((Below.refl w.heap.size w).alloc (Nat.le_refl _) (.cells #[.int .i64 2, .bool true, .int .i64 0, .string y, .slice NA nl nc, .slice A m c] 26))
   have hv : Hid (aloneB validL (.mk 2 true 0 s names kids) = false) := by
    show _ = _
    simp [aloneB, hs0]
   clear hm hn hy
   go_enter Tryz.func87, Tryz.ntmps87
   go_wp2_with fail
   go_ret
   exact ⟨by rw [hv.out]; rfl, HB.out⟩
  obtain rfl := str_nothing hy hs0
  subst hs0
  clear hy
  have hke : kids.isEmpty = decide (m = 0) := by rw [← hm]; cases kids <;> simp
  have hne : names.isEmpty = decide (nl = 0) := by rw [← hn]; cases names <;> simp
  have HM := Lib.hid (And.intro hm hn)
  clear hm hn
  by_cases hm0 : m = 0
  case neg =>
   have k1 : decide (0 < (m : Int)) = true := by simp; omega
   have k2 : decide (0 < m) = true := by simp; omega
   have HB := Lib.hid ((Below.refl w.heap.size w).alloc (Nat.le_refl _) (.cells #[.int .i64 2, .bool true, .int .i64 0, .string ⟨#[]⟩, .slice NA nl nc, .slice A m c] 26))
   have hv : Hid (aloneB validL (.mk 2 true 0 [] names kids) = false) := by
    show _ = _
    simp [aloneB, hke, hm0]
   clear hke hne
   go_enter Tryz.func87, Tryz.ntmps87
   go_wp2_with fail
   go_ret
   exact ⟨by rw [hv.out]; rfl, HB.out⟩
  subst hm0
  by_cases hl0 : nl = 0
  case neg =>
   have l1 : decide (0 < (nl : Int)) = true := by simp; omega
   have l2 : decide (0 < nl) = true := by simp; omega
   have HB := Lib.hid ((Below.refl w.heap.size w).alloc (Nat.le_refl _) (.cells #[.int .i64 2, .bool true, .int .i64 0, .string ⟨#[]⟩, .slice NA nl nc, .slice A 0 c] 26))
   have hv : Hid (aloneB validL (.mk 2 true 0 [] names kids) = false) := by
    show _ = _
    simp [aloneB, hne, hl0, hke]
   clear hke hne
   go_enter Tryz.func87, Tryz.ntmps87
   go_wp2_with fail
   go_ret
   exact ⟨by rw [hv.out]; rfl, HB.out⟩
  subst hl0
  have HB := Lib.hid ((Below.refl w.heap.size w).alloc (Nat.le_refl _) (.cells #[.int .i64 2, .bool true, .int .i64 0, .string ⟨#[]⟩, .slice NA 0 nc, .slice A 0 c] 26))
  cases hval : validL []
  case false =>
   have hv : Hid (aloneB validL (.mk 2 true 0 [] names kids) = false) := by
    show _ = _
    simp [aloneB, hval, hke, hne]
   rw [hval] at cval
   clear hke hne hval
   go_enter Tryz.func87, Tryz.ntmps87
   go_wp2_with fail
   refine (cval.out _).mono ?_
   rintro _ w2 ⟨rfl, hb2⟩
   have HB2 := Lib.hid (below_next HB.out hb2)
   clear hb2
   go_wp2_with fail
   go_ret
   exact ⟨by rw [hv.out]; rfl, HB2.out⟩
  have hv : Hid (aloneB validL (.mk 2 true 0 [] names kids) = true) := by
   show _ = _
   simp [aloneB, hval, hke, hne]
  rw [hval] at cval
  clear hke hne hval
  go_enter Tryz.func87, Tryz.ntmps87
  go_wp2_with fail
  refine (cval.out _).mono ?_
  rintro _ w2 ⟨rfl, hb2⟩
  have HB2 := Lib.hid (below_next HB.out hb2)
  have HX2 := (Blk.new w 26 #[.int .i64 2, .bool true, .int .i64 0, .string ⟨#[]⟩, .slice NA 0 nc, .slice A 0 c]).below hb2 (by simp)
  have c0 : w2.cell? ⟨w.heap.size, 0, none⟩ = some (.int .i64 2) := HX2.cell 0
  clear hb2 HX2
  go_wp2_with fail
  go_ret
  exact ⟨by rw [hv.out]; rfl, HB2.out⟩
 by_cases hn0 : n = 0
 case neg =>
  have f1 : (n == 0) = false := by simpa using hn0
  have f2 : (n != 0) = true := by simpa using hn0
  have HB := Lib.hid ((Below.refl w.heap.size w).alloc (Nat.le_refl _) (.cells #[.int .i64 2, .bool false, .int .i64 n, .string y, .slice NA nl nc, .slice A m c] 26))
  have hv : Hid (aloneB validL (.mk 2 false n s names kids) = false) := by
   show _ = _
   simp [aloneB, hn0]
  clear hm hn hy
  go_enter Tryz.func87, Tryz.ntmps87
  go_wp2_with fail
  go_ret
  exact ⟨by rw [hv.out]; rfl, HB.out⟩
 subst hn0
 by_cases hs0 : s = []
 case neg =>
  obtain ⟨g1, g2, g3, g4⟩ := str_not hy hs0
  have HB := Lib.hid ((Below.refl w.heap.size w).alloc (Nat.le_refl _) (.cells #[.int .i64 2, .bool false, .int .i64 0, .string y, .slice NA nl nc, .slice A m c] 26))
  have hv : Hid (aloneB validL (.mk 2 false 0 s names kids) = false) := by
   show _ = _
   simp [aloneB, hs0]
  clear hm hn hy
  go_enter Tryz.func87, Tryz.ntmps87
  go_wp2_with fail
  go_ret
  exact ⟨by rw [hv.out]; rfl, HB.out⟩
 obtain rfl := str_nothing hy hs0
 subst hs0
 clear hy
 have hke : kids.isEmpty = decide (m = 0) := by rw [← hm]; cases kids <;> simp
 have hne : names.isEmpty = decide (nl = 0) := by rw [← hn]; cases names <;> simp
 have HM := Lib.hid (And.intro hm hn)
 clear hm hn
 by_cases hm0 : m = 0
 case neg =>
  have k1 : decide (0 < (m : Int)) = true := by simp; omega
  have k2 : decide (0 < m) = true := by simp; omega
  have HB := Lib.hid ((Below.refl w.heap.size w).alloc (Nat.le_refl _) (.cells #[.int .i64 2, .bool false, .int .i64 0, .string ⟨#[]⟩, .slice NA nl nc, .slice A m c] 26))
  have hv : Hid (aloneB validL (.mk 2 false 0 [] names kids) = false) := by
   show _ = _
   simp [aloneB, hke, hm0]
  clear hke hne
  go_enter Tryz.func87, Tryz.ntmps87
  go_wp2_with fail
  go_ret
  exact ⟨by rw [hv.out]; rfl, HB.out⟩
 subst hm0
 by_cases hl0 : nl = 0
 case neg =>
  have l1 : decide (0 < (nl : Int)) = true := by simp; omega
  have l2 : decide (0 < nl) = true := by simp; omega
  have HB := Lib.hid ((Below.refl w.heap.size w).alloc (Nat.le_refl _) (.cells #[.int .i64 2, .bool false, .int .i64 0, .string ⟨#[]⟩, .slice NA nl nc, .slice A 0 c] 26))
  have hv : Hid (aloneB validL (.mk 2 false 0 [] names kids) = false) := by
   show _ = _
   simp [aloneB, hne, hl0, hke]
  clear hke hne
  go_enter Tryz.func87, Tryz.ntmps87
  go_wp2_with fail
  go_ret
  exact ⟨by rw [hv.out]; rfl, HB.out⟩
 subst hl0
 have HB := Lib.hid ((Below.refl w.heap.size w).alloc (Nat.le_refl _) (.cells #[.int .i64 2, .bool false, .int .i64 0, .string ⟨#[]⟩, .slice NA 0 nc, .slice A 0 c] 26))
 cases hval : validL []
 case false =>
  have hv : Hid (aloneB validL (.mk 2 false 0 [] names kids) = false) := by
   show _ = _
   simp [aloneB, hval, hke, hne]
  rw [hval] at cval
  clear hke hne hval
  go_enter Tryz.func87, Tryz.ntmps87
  go_wp2_with fail
  refine (cval.out _).mono ?_
  rintro _ w2 ⟨rfl, hb2⟩
  have HB2 := Lib.hid (below_next HB.out hb2)
  clear hb2
  go_wp2_with fail
  go_ret
  exact ⟨by rw [hv.out]; rfl, HB2.out⟩
 have hv : Hid (aloneB validL (.mk 2 false 0 [] names kids) = true) := by
  show _ = _
  simp [aloneB, hval, hke, hne]
 rw [hval] at cval
 clear hke hne hval
 go_enter Tryz.func87, Tryz.ntmps87
 go_wp2_with fail
 refine (cval.out _).mono ?_
 rintro _ w2 ⟨rfl, hb2⟩
 have HB2 := Lib.hid (below_next HB.out hb2)
 have HX2 := (Blk.new w 26 #[.int .i64 2, .bool false, .int .i64 0, .string ⟨#[]⟩, .slice NA 0 nc, .slice A 0 c]).below hb2 (by simp)
 have c0 : w2.cell? ⟨w.heap.size, 0, none⟩ = some (.int .i64 2) := HX2.cell 0
 clear hb2 HX2
 go_wp2_with fail
 go_ret
 exact ⟨by rw [hv.out]; rfl, HB2.out⟩
theorem alone_3 (b : Bool) (n : Int) (s : List UInt8) (y : ByteArray) (names : List (List UInt8)) (kids : List Jv) (m nl : Nat) (hm : kids.length = m) (hn : names.length = nl) (hy : (⟨s.toArray⟩ : ByteArray) = y) (NA : Option Addr) (nc : Nat) (A : Option Addr) (c : Nat) (w : World)
  (cval : Hid (∀ W, CallsB 114 (.string y) (validL s) W)) (cnam : Hid (∀ W, Below w.heap.size w W → CallsB 115 (.agg #[.int .i64 3, .bool b, .int .i64 n, .string y, .slice NA nl nc, .slice A m c]) (namesB names kids.length) W)) :
  CallsB 87 (.agg #[.int .i64 3, .bool b, .int .i64 n, .string y, .slice NA nl nc, .slice A m c]) (aloneB validL (.mk 3 b n s names kids)) w := by
 show Calls _ _ _ _ _
 cases b
 case true =>
  have HB := Lib.hid ((Below.refl w.heap.size w).alloc (Nat.le_refl _) (.cells #[.int .i64 3, .bool true, .int .i64 n, .string y, .slice NA nl nc, .slice A m c] 26))
  have hv : Hid (aloneB validL (.mk 3 true n s names kids) = false) := by
   show _ = _
   simp [aloneB]
  clear hm hn hy
  go_enter Tryz.func87, Tryz.ntmps87
  go_wp2_with fail
  go_ret
  exact ⟨by rw [hv.out]; rfl, HB.out⟩
 by_cases hn0 : n = 0
 case neg =>
  have f1 : (n == 0) = false := by simpa using hn0
  have f2 : (n != 0) = true := by simpa using hn0
  by_cases hlo : n < -9007199254740992
  case pos =>
   have f3 : decide (n < -9007199254740992) = true := decide_eq_true hlo
   have HB := Lib.hid ((Below.refl w.heap.size w).alloc (Nat.le_refl _) (.cells #[.int .i64 3, .bool false, .int .i64 n, .string y, .slice NA nl nc, .slice A m c] 26))
   have hv : Hid (aloneB validL (.mk 3 false n s names kids) = false) := by
    show _ = _
    simp [aloneB, show ¬ (-9007199254740992 ≤ n ∧ n ≤ 9007199254740992) by omega]
   clear hm hn hy
   go_enter Tryz.func87, Tryz.ntmps87
   go_wp2_with fail
   go_ret
   exact ⟨by rw [hv.out]; rfl, HB.out⟩
  have f3 : decide (n < -9007199254740992) = false := decide_eq_false hlo
  by_cases hhi : 9007199254740992 < n
  case pos =>
   have f4 : decide (9007199254740992 < n) = true := decide_eq_true hhi
   have HB := Lib.hid ((Below.refl w.heap.size w).alloc (Nat.le_refl _) (.cells #[.int .i64 3, .bool false, .int .i64 n, .string y, .slice NA nl nc, .slice A m c] 26))
   have hv : Hid (aloneB validL (.mk 3 false n s names kids) = false) := by
    show _ = _
    simp [aloneB, show ¬ (-9007199254740992 ≤ n ∧ n ≤ 9007199254740992) by omega]
   clear hm hn hy
   go_enter Tryz.func87, Tryz.ntmps87
   go_wp2_with fail
   go_ret
   exact ⟨by rw [hv.out]; rfl, HB.out⟩
  have f4 : decide (9007199254740992 < n) = false := decide_eq_false hhi
  have hrn : -9007199254740992 ≤ n ∧ n ≤ 9007199254740992 := by omega
  clear hlo hhi
  by_cases hs0 : s = []
  case neg =>
   obtain ⟨g1, g2, g3, g4⟩ := str_not hy hs0
   have HB := Lib.hid ((Below.refl w.heap.size w).alloc (Nat.le_refl _) (.cells #[.int .i64 3, .bool false, .int .i64 n, .string y, .slice NA nl nc, .slice A m c] 26))
   have hv : Hid (aloneB validL (.mk 3 false n s names kids) = false) := by
    show _ = _
    simp [aloneB, hs0, hrn.1, hrn.2, hn0]
   clear hm hn hy
   go_enter Tryz.func87, Tryz.ntmps87
   go_wp2_with fail
   go_ret
   exact ⟨by rw [hv.out]; rfl, HB.out⟩
  obtain rfl := str_nothing hy hs0
  subst hs0
  clear hy
  have hke : kids.isEmpty = decide (m = 0) := by rw [← hm]; cases kids <;> simp
  have hne : names.isEmpty = decide (nl = 0) := by rw [← hn]; cases names <;> simp
  have HM := Lib.hid (And.intro hm hn)
  clear hm hn
  by_cases hm0 : m = 0
  case neg =>
   have k1 : decide (0 < (m : Int)) = true := by simp; omega
   have k2 : decide (0 < m) = true := by simp; omega
   have HB := Lib.hid ((Below.refl w.heap.size w).alloc (Nat.le_refl _) (.cells #[.int .i64 3, .bool false, .int .i64 n, .string ⟨#[]⟩, .slice NA nl nc, .slice A m c] 26))
   have hv : Hid (aloneB validL (.mk 3 false n [] names kids) = false) := by
    show _ = _
    simp [aloneB, hke, hm0, hrn.1, hrn.2, hn0]
   clear hke hne
   go_enter Tryz.func87, Tryz.ntmps87
   go_wp2_with fail
   go_ret
   exact ⟨by rw [hv.out]; rfl, HB.out⟩
  subst hm0
  by_cases hl0 : nl = 0
  case neg =>
   have l1 : decide (0 < (nl : Int)) = true := by simp; omega
   have l2 : decide (0 < nl) = true := by simp; omega
   have HB := Lib.hid ((Below.refl w.heap.size w).alloc (Nat.le_refl _) (.cells #[.int .i64 3, .bool false, .int .i64 n, .string ⟨#[]⟩, .slice NA nl nc, .slice A 0 c] 26))
   have hv : Hid (aloneB validL (.mk 3 false n [] names kids) = false) := by
    show _ = _
    simp [aloneB, hne, hl0, hrn.1, hrn.2, hn0, hke]
   clear hke hne
   go_enter Tryz.func87, Tryz.ntmps87
   go_wp2_with fail
   go_ret
   exact ⟨by rw [hv.out]; rfl, HB.out⟩
  subst hl0
  have HB := Lib.hid ((Below.refl w.heap.size w).alloc (Nat.le_refl _) (.cells #[.int .i64 3, .bool false, .int .i64 n, .string ⟨#[]⟩, .slice NA 0 nc, .slice A 0 c] 26))
  cases hval : validL []
  case false =>
   have hv : Hid (aloneB validL (.mk 3 false n [] names kids) = false) := by
    show _ = _
    simp [aloneB, hval, hrn.1, hrn.2, hn0, hke, hne]
   rw [hval] at cval
   clear hke hne hval
   go_enter Tryz.func87, Tryz.ntmps87
   go_wp2_with fail
   refine (cval.out _).mono ?_
   rintro _ w2 ⟨rfl, hb2⟩
   have HB2 := Lib.hid (below_next HB.out hb2)
   clear hb2
   go_wp2_with fail
   go_ret
   exact ⟨by rw [hv.out]; rfl, HB2.out⟩
  have hv : Hid (aloneB validL (.mk 3 false n [] names kids) = true) := by
   show _ = _
   simp [aloneB, hval, hrn.1, hrn.2, hn0, hke, hne]
  rw [hval] at cval
  clear hke hne hval
  go_enter Tryz.func87, Tryz.ntmps87
  go_wp2_with fail
  refine (cval.out _).mono ?_
  rintro _ w2 ⟨rfl, hb2⟩
  have HB2 := Lib.hid (below_next HB.out hb2)
  have HX2 := (Blk.new w 26 #[.int .i64 3, .bool false, .int .i64 n, .string ⟨#[]⟩, .slice NA 0 nc, .slice A 0 c]).below hb2 (by simp)
  have c0 : w2.cell? ⟨w.heap.size, 0, none⟩ = some (.int .i64 3) := HX2.cell 0
  clear hb2 HX2
  go_wp2_with fail
  go_ret
  exact ⟨by rw [hv.out]; rfl, HB2.out⟩
 subst hn0
 by_cases hs0 : s = []
 case neg =>
  obtain ⟨g1, g2, g3, g4⟩ := str_not hy hs0
  have HB := Lib.hid ((Below.refl w.heap.size w).alloc (Nat.le_refl _) (.cells #[.int .i64 3, .bool false, .int .i64 0, .string y, .slice NA nl nc, .slice A m c] 26))
  have hv : Hid (aloneB validL (.mk 3 false 0 s names kids) = false) := by
   show _ = _
   simp [aloneB, hs0]
  clear hm hn hy
  go_enter Tryz.func87, Tryz.ntmps87
  go_wp2_with fail
  go_ret
  exact ⟨by rw [hv.out]; rfl, HB.out⟩
 obtain rfl := str_nothing hy hs0
 subst hs0
 clear hy
 have hke : kids.isEmpty = decide (m = 0) := by rw [← hm]; cases kids <;> simp
 have hne : names.isEmpty = decide (nl = 0) := by rw [← hn]; cases names <;> simp
 have HM := Lib.hid (And.intro hm hn)
 clear hm hn
 by_cases hm0 : m = 0
 case neg =>
  have k1 : decide (0 < (m : Int)) = true := by simp; omega
  have k2 : decide (0 < m) = true := by simp; omega
  have HB := Lib.hid ((Below.refl w.heap.size w).alloc (Nat.le_refl _) (.cells #[.int .i64 3, .bool false, .int .i64 0, .string ⟨#[]⟩, .slice NA nl nc, .slice A m c] 26))
  have hv : Hid (aloneB validL (.mk 3 false 0 [] names kids) = false) := by
   show _ = _
   simp [aloneB, hke, hm0]
  clear hke hne
  go_enter Tryz.func87, Tryz.ntmps87
  go_wp2_with fail
  go_ret
  exact ⟨by rw [hv.out]; rfl, HB.out⟩
 subst hm0
 by_cases hl0 : nl = 0
 case neg =>
  have l1 : decide (0 < (nl : Int)) = true := by simp; omega
  have l2 : decide (0 < nl) = true := by simp; omega
  have HB := Lib.hid ((Below.refl w.heap.size w).alloc (Nat.le_refl _) (.cells #[.int .i64 3, .bool false, .int .i64 0, .string ⟨#[]⟩, .slice NA nl nc, .slice A 0 c] 26))
  have hv : Hid (aloneB validL (.mk 3 false 0 [] names kids) = false) := by
   show _ = _
   simp [aloneB, hne, hl0, hke]
  clear hke hne
  go_enter Tryz.func87, Tryz.ntmps87
  go_wp2_with fail
  go_ret
  exact ⟨by rw [hv.out]; rfl, HB.out⟩
 subst hl0
 have HB := Lib.hid ((Below.refl w.heap.size w).alloc (Nat.le_refl _) (.cells #[.int .i64 3, .bool false, .int .i64 0, .string ⟨#[]⟩, .slice NA 0 nc, .slice A 0 c] 26))
 cases hval : validL []
 case false =>
  have hv : Hid (aloneB validL (.mk 3 false 0 [] names kids) = false) := by
   show _ = _
   simp [aloneB, hval, hke, hne]
  rw [hval] at cval
  clear hke hne hval
  go_enter Tryz.func87, Tryz.ntmps87
  go_wp2_with fail
  refine (cval.out _).mono ?_
  rintro _ w2 ⟨rfl, hb2⟩
  have HB2 := Lib.hid (below_next HB.out hb2)
  clear hb2
  go_wp2_with fail
  go_ret
  exact ⟨by rw [hv.out]; rfl, HB2.out⟩
 have hv : Hid (aloneB validL (.mk 3 false 0 [] names kids) = true) := by
  show _ = _
  simp [aloneB, hval, hke, hne]
 rw [hval] at cval
 clear hke hne hval
 go_enter Tryz.func87, Tryz.ntmps87
 go_wp2_with fail
 refine (cval.out _).mono ?_
 rintro _ w2 ⟨rfl, hb2⟩
 have HB2 := Lib.hid (below_next HB.out hb2)
 have HX2 := (Blk.new w 26 #[.int .i64 3, .bool false, .int .i64 0, .string ⟨#[]⟩, .slice NA 0 nc, .slice A 0 c]).below hb2 (by simp)
 have c0 : w2.cell? ⟨w.heap.size, 0, none⟩ = some (.int .i64 3) := HX2.cell 0
 clear hb2 HX2
 go_wp2_with fail
 go_ret
 exact ⟨by rw [hv.out]; rfl, HB2.out⟩
theorem alone_4 (b : Bool) (n : Int) (s : List UInt8) (y : ByteArray) (names : List (List UInt8)) (kids : List Jv) (m nl : Nat) (hm : kids.length = m) (hn : names.length = nl) (hy : (⟨s.toArray⟩ : ByteArray) = y) (NA : Option Addr) (nc : Nat) (A : Option Addr) (c : Nat) (w : World)
  (cval : Hid (∀ W, CallsB 114 (.string y) (validL s) W)) (cnam : Hid (∀ W, Below w.heap.size w W → CallsB 115 (.agg #[.int .i64 4, .bool b, .int .i64 n, .string y, .slice NA nl nc, .slice A m c]) (namesB names kids.length) W)) :
  CallsB 87 (.agg #[.int .i64 4, .bool b, .int .i64 n, .string y, .slice NA nl nc, .slice A m c]) (aloneB validL (.mk 4 b n s names kids)) w := by
 show Calls _ _ _ _ _
 cases b
 case true =>
  have HB := Lib.hid ((Below.refl w.heap.size w).alloc (Nat.le_refl _) (.cells #[.int .i64 4, .bool true, .int .i64 n, .string y, .slice NA nl nc, .slice A m c] 26))
  have hv : Hid (aloneB validL (.mk 4 true n s names kids) = false) := by
   show _ = _
   simp [aloneB]
  clear hm hn hy
  go_enter Tryz.func87, Tryz.ntmps87
  go_wp2_with fail
  go_ret
  exact ⟨by rw [hv.out]; rfl, HB.out⟩
 by_cases hn0 : n = 0
 case neg =>
  have f1 : (n == 0) = false := by simpa using hn0
  have f2 : (n != 0) = true := by simpa using hn0
  have HB := Lib.hid ((Below.refl w.heap.size w).alloc (Nat.le_refl _) (.cells #[.int .i64 4, .bool false, .int .i64 n, .string y, .slice NA nl nc, .slice A m c] 26))
  have hv : Hid (aloneB validL (.mk 4 false n s names kids) = false) := by
   show _ = _
   simp [aloneB, hn0]
  clear hm hn hy
  go_enter Tryz.func87, Tryz.ntmps87
  go_wp2_with fail
  go_ret
  exact ⟨by rw [hv.out]; rfl, HB.out⟩
 subst hn0
 by_cases hs0 : s = []
 case neg =>
  obtain ⟨g1, g2, g3, g4⟩ := str_not hy hs0
  have hke : kids.isEmpty = decide (m = 0) := by rw [← hm]; cases kids <;> simp
  have hne : names.isEmpty = decide (nl = 0) := by rw [← hn]; cases names <;> simp
  have HM := Lib.hid (And.intro hm hn)
  clear hm hn hy
  by_cases hm0 : m = 0
  case neg =>
   have k1 : decide (0 < (m : Int)) = true := by simp; omega
   have k2 : decide (0 < m) = true := by simp; omega
   have HB := Lib.hid ((Below.refl w.heap.size w).alloc (Nat.le_refl _) (.cells #[.int .i64 4, .bool false, .int .i64 0, .string y, .slice NA nl nc, .slice A m c] 26))
   have hv : Hid (aloneB validL (.mk 4 false 0 s names kids) = false) := by
    show _ = _
    simp [aloneB, hke, hm0, hs0]
   clear hke hne
   go_enter Tryz.func87, Tryz.ntmps87
   go_wp2_with fail
   go_ret
   exact ⟨by rw [hv.out]; rfl, HB.out⟩
  subst hm0
  by_cases hl0 : nl = 0
  case neg =>
   have l1 : decide (0 < (nl : Int)) = true := by simp; omega
   have l2 : decide (0 < nl) = true := by simp; omega
   have HB := Lib.hid ((Below.refl w.heap.size w).alloc (Nat.le_refl _) (.cells #[.int .i64 4, .bool false, .int .i64 0, .string y, .slice NA nl nc, .slice A 0 c] 26))
   have hv : Hid (aloneB validL (.mk 4 false 0 s names kids) = false) := by
    show _ = _
    simp [aloneB, hne, hl0, hs0, hke]
   clear hke hne
   go_enter Tryz.func87, Tryz.ntmps87
   go_wp2_with fail
   go_ret
   exact ⟨by rw [hv.out]; rfl, HB.out⟩
  subst hl0
  have HB := Lib.hid ((Below.refl w.heap.size w).alloc (Nat.le_refl _) (.cells #[.int .i64 4, .bool false, .int .i64 0, .string y, .slice NA 0 nc, .slice A 0 c] 26))
  cases hval : validL s
  case false =>
   have hv : Hid (aloneB validL (.mk 4 false 0 s names kids) = false) := by
    show _ = _
    simp [aloneB, hval, hs0, hke, hne]
   rw [hval] at cval
   clear hke hne hval
   go_enter Tryz.func87, Tryz.ntmps87
   go_wp2_with fail
   refine (cval.out _).mono ?_
   rintro _ w2 ⟨rfl, hb2⟩
   have HB2 := Lib.hid (below_next HB.out hb2)
   clear hb2
   go_wp2_with fail
   go_ret
   exact ⟨by rw [hv.out]; rfl, HB2.out⟩
  have hv : Hid (aloneB validL (.mk 4 false 0 s names kids) = true) := by
   show _ = _
   simp [aloneB, hval, hs0, hke, hne]
  rw [hval] at cval
  clear hke hne hval
  go_enter Tryz.func87, Tryz.ntmps87
  go_wp2_with fail
  refine (cval.out _).mono ?_
  rintro _ w2 ⟨rfl, hb2⟩
  have HB2 := Lib.hid (below_next HB.out hb2)
  have HX2 := (Blk.new w 26 #[.int .i64 4, .bool false, .int .i64 0, .string y, .slice NA 0 nc, .slice A 0 c]).below hb2 (by simp)
  have c0 : w2.cell? ⟨w.heap.size, 0, none⟩ = some (.int .i64 4) := HX2.cell 0
  clear hb2 HX2
  go_wp2_with fail
  go_ret
  exact ⟨by rw [hv.out]; rfl, HB2.out⟩
 obtain rfl := str_nothing hy hs0
 subst hs0
 clear hy
 have hke : kids.isEmpty = decide (m = 0) := by rw [← hm]; cases kids <;> simp
 have hne : names.isEmpty = decide (nl = 0) := by rw [← hn]; cases names <;> simp
 have HM := Lib.hid (And.intro hm hn)
 clear hm hn
 by_cases hm0 : m = 0
 case neg =>
  have k1 : decide (0 < (m : Int)) = true := by simp; omega
  have k2 : decide (0 < m) = true := by simp; omega
  have HB := Lib.hid ((Below.refl w.heap.size w).alloc (Nat.le_refl _) (.cells #[.int .i64 4, .bool false, .int .i64 0, .string ⟨#[]⟩, .slice NA nl nc, .slice A m c] 26))
  have hv : Hid (aloneB validL (.mk 4 false 0 [] names kids) = false) := by
   show _ = _
   simp [aloneB, hke, hm0]
  clear hke hne
  go_enter Tryz.func87, Tryz.ntmps87
  go_wp2_with fail
  go_ret
  exact ⟨by rw [hv.out]; rfl, HB.out⟩
 subst hm0
 by_cases hl0 : nl = 0
 case neg =>
  have l1 : decide (0 < (nl : Int)) = true := by simp; omega
  have l2 : decide (0 < nl) = true := by simp; omega
  have HB := Lib.hid ((Below.refl w.heap.size w).alloc (Nat.le_refl _) (.cells #[.int .i64 4, .bool false, .int .i64 0, .string ⟨#[]⟩, .slice NA nl nc, .slice A 0 c] 26))
  have hv : Hid (aloneB validL (.mk 4 false 0 [] names kids) = false) := by
   show _ = _
   simp [aloneB, hne, hl0, hke]
  clear hke hne
  go_enter Tryz.func87, Tryz.ntmps87
  go_wp2_with fail
  go_ret
  exact ⟨by rw [hv.out]; rfl, HB.out⟩
 subst hl0
 have HB := Lib.hid ((Below.refl w.heap.size w).alloc (Nat.le_refl _) (.cells #[.int .i64 4, .bool false, .int .i64 0, .string ⟨#[]⟩, .slice NA 0 nc, .slice A 0 c] 26))
 cases hval : validL []
 case false =>
  have hv : Hid (aloneB validL (.mk 4 false 0 [] names kids) = false) := by
   show _ = _
   simp [aloneB, hval, hke, hne]
  rw [hval] at cval
  clear hke hne hval
  go_enter Tryz.func87, Tryz.ntmps87
  go_wp2_with fail
  refine (cval.out _).mono ?_
  rintro _ w2 ⟨rfl, hb2⟩
  have HB2 := Lib.hid (below_next HB.out hb2)
  clear hb2
  go_wp2_with fail
  go_ret
  exact ⟨by rw [hv.out]; rfl, HB2.out⟩
 have hv : Hid (aloneB validL (.mk 4 false 0 [] names kids) = true) := by
  show _ = _
  simp [aloneB, hval, hke, hne]
 rw [hval] at cval
 clear hke hne hval
 go_enter Tryz.func87, Tryz.ntmps87
 go_wp2_with fail
 refine (cval.out _).mono ?_
 rintro _ w2 ⟨rfl, hb2⟩
 have HB2 := Lib.hid (below_next HB.out hb2)
 have HX2 := (Blk.new w 26 #[.int .i64 4, .bool false, .int .i64 0, .string ⟨#[]⟩, .slice NA 0 nc, .slice A 0 c]).below hb2 (by simp)
 have c0 : w2.cell? ⟨w.heap.size, 0, none⟩ = some (.int .i64 4) := HX2.cell 0
 clear hb2 HX2
 go_wp2_with fail
 go_ret
 exact ⟨by rw [hv.out]; rfl, HB2.out⟩
theorem alone_5 (b : Bool) (n : Int) (s : List UInt8) (y : ByteArray) (names : List (List UInt8)) (kids : List Jv) (m nl : Nat) (hm : kids.length = m) (hn : names.length = nl) (hy : (⟨s.toArray⟩ : ByteArray) = y) (NA : Option Addr) (nc : Nat) (A : Option Addr) (c : Nat) (w : World)
  (cval : Hid (∀ W, CallsB 114 (.string y) (validL s) W)) (cnam : Hid (∀ W, Below w.heap.size w W → CallsB 115 (.agg #[.int .i64 5, .bool b, .int .i64 n, .string y, .slice NA nl nc, .slice A m c]) (namesB names kids.length) W)) :
  CallsB 87 (.agg #[.int .i64 5, .bool b, .int .i64 n, .string y, .slice NA nl nc, .slice A m c]) (aloneB validL (.mk 5 b n s names kids)) w := by
 show Calls _ _ _ _ _
 cases b
 case true =>
  have HB := Lib.hid ((Below.refl w.heap.size w).alloc (Nat.le_refl _) (.cells #[.int .i64 5, .bool true, .int .i64 n, .string y, .slice NA nl nc, .slice A m c] 26))
  have hv : Hid (aloneB validL (.mk 5 true n s names kids) = false) := by
   show _ = _
   simp [aloneB]
  clear hm hn hy
  go_enter Tryz.func87, Tryz.ntmps87
  go_wp2_with fail
  go_ret
  exact ⟨by rw [hv.out]; rfl, HB.out⟩
 by_cases hn0 : n = 0
 case neg =>
  have f1 : (n == 0) = false := by simpa using hn0
  have f2 : (n != 0) = true := by simpa using hn0
  have HB := Lib.hid ((Below.refl w.heap.size w).alloc (Nat.le_refl _) (.cells #[.int .i64 5, .bool false, .int .i64 n, .string y, .slice NA nl nc, .slice A m c] 26))
  have hv : Hid (aloneB validL (.mk 5 false n s names kids) = false) := by
   show _ = _
   simp [aloneB, hn0]
  clear hm hn hy
  go_enter Tryz.func87, Tryz.ntmps87
  go_wp2_with fail
  go_ret
  exact ⟨by rw [hv.out]; rfl, HB.out⟩
 subst hn0
 by_cases hs0 : s = []
 case neg =>
  obtain ⟨g1, g2, g3, g4⟩ := str_not hy hs0
  have HB := Lib.hid ((Below.refl w.heap.size w).alloc (Nat.le_refl _) (.cells #[.int .i64 5, .bool false, .int .i64 0, .string y, .slice NA nl nc, .slice A m c] 26))
  have hv : Hid (aloneB validL (.mk 5 false 0 s names kids) = false) := by
   show _ = _
   simp [aloneB, hs0]
  clear hm hn hy
  go_enter Tryz.func87, Tryz.ntmps87
  go_wp2_with fail
  go_ret
  exact ⟨by rw [hv.out]; rfl, HB.out⟩
 obtain rfl := str_nothing hy hs0
 subst hs0
 clear hy
 have hke : kids.isEmpty = decide (m = 0) := by rw [← hm]; cases kids <;> simp
 have hne : names.isEmpty = decide (nl = 0) := by rw [← hn]; cases names <;> simp
 have HM := Lib.hid (And.intro hm hn)
 clear hm hn
 by_cases hm0 : m = 0
 case neg =>
  have k1 : decide (0 < (m : Int)) = true := by simp; omega
  have k2 : decide (0 < m) = true := by simp; omega
  by_cases hl0 : nl = 0
  case neg =>
   have l1 : decide (0 < (nl : Int)) = true := by simp; omega
   have l2 : decide (0 < nl) = true := by simp; omega
   have HB := Lib.hid ((Below.refl w.heap.size w).alloc (Nat.le_refl _) (.cells #[.int .i64 5, .bool false, .int .i64 0, .string ⟨#[]⟩, .slice NA nl nc, .slice A m c] 26))
   have hv : Hid (aloneB validL (.mk 5 false 0 [] names kids) = false) := by
    show _ = _
    simp [aloneB, hne, hl0, hm0, hke]
   clear hke hne
   go_enter Tryz.func87, Tryz.ntmps87
   go_wp2_with fail
   go_ret
   exact ⟨by rw [hv.out]; rfl, HB.out⟩
  subst hl0
  have HB := Lib.hid ((Below.refl w.heap.size w).alloc (Nat.le_refl _) (.cells #[.int .i64 5, .bool false, .int .i64 0, .string ⟨#[]⟩, .slice NA 0 nc, .slice A m c] 26))
  cases hval : validL []
  case false =>
   have hv : Hid (aloneB validL (.mk 5 false 0 [] names kids) = false) := by
    show _ = _
    simp [aloneB, hval, hm0, hke, hne]
   rw [hval] at cval
   clear hke hne hval
   go_enter Tryz.func87, Tryz.ntmps87
   go_wp2_with fail
   refine (cval.out _).mono ?_
   rintro _ w2 ⟨rfl, hb2⟩
   have HB2 := Lib.hid (below_next HB.out hb2)
   clear hb2
   go_wp2_with fail
   go_ret
   exact ⟨by rw [hv.out]; rfl, HB2.out⟩
  have hv : Hid (aloneB validL (.mk 5 false 0 [] names kids) = true) := by
   show _ = _
   simp [aloneB, hval, hm0, hke, hne]
  rw [hval] at cval
  clear hke hne hval
  go_enter Tryz.func87, Tryz.ntmps87
  go_wp2_with fail
  refine (cval.out _).mono ?_
  rintro _ w2 ⟨rfl, hb2⟩
  have HB2 := Lib.hid (below_next HB.out hb2)
  have HX2 := (Blk.new w 26 #[.int .i64 5, .bool false, .int .i64 0, .string ⟨#[]⟩, .slice NA 0 nc, .slice A m c]).below hb2 (by simp)
  have c0 : w2.cell? ⟨w.heap.size, 0, none⟩ = some (.int .i64 5) := HX2.cell 0
  clear hb2 HX2
  go_wp2_with fail
  go_ret
  exact ⟨by rw [hv.out]; rfl, HB2.out⟩
 subst hm0
 by_cases hl0 : nl = 0
 case neg =>
  have l1 : decide (0 < (nl : Int)) = true := by simp; omega
  have l2 : decide (0 < nl) = true := by simp; omega
  have HB := Lib.hid ((Below.refl w.heap.size w).alloc (Nat.le_refl _) (.cells #[.int .i64 5, .bool false, .int .i64 0, .string ⟨#[]⟩, .slice NA nl nc, .slice A 0 c] 26))
  have hv : Hid (aloneB validL (.mk 5 false 0 [] names kids) = false) := by
   show _ = _
   simp [aloneB, hne, hl0, hke]
  clear hke hne
  go_enter Tryz.func87, Tryz.ntmps87
  go_wp2_with fail
  go_ret
  exact ⟨by rw [hv.out]; rfl, HB.out⟩
 subst hl0
 have HB := Lib.hid ((Below.refl w.heap.size w).alloc (Nat.le_refl _) (.cells #[.int .i64 5, .bool false, .int .i64 0, .string ⟨#[]⟩, .slice NA 0 nc, .slice A 0 c] 26))
 cases hval : validL []
 case false =>
  have hv : Hid (aloneB validL (.mk 5 false 0 [] names kids) = false) := by
   show _ = _
   simp [aloneB, hval, hke, hne]
  rw [hval] at cval
  clear hke hne hval
  go_enter Tryz.func87, Tryz.ntmps87
  go_wp2_with fail
  refine (cval.out _).mono ?_
  rintro _ w2 ⟨rfl, hb2⟩
  have HB2 := Lib.hid (below_next HB.out hb2)
  clear hb2
  go_wp2_with fail
  go_ret
  exact ⟨by rw [hv.out]; rfl, HB2.out⟩
 have hv : Hid (aloneB validL (.mk 5 false 0 [] names kids) = true) := by
  show _ = _
  simp [aloneB, hval, hke, hne]
 rw [hval] at cval
 clear hke hne hval
 go_enter Tryz.func87, Tryz.ntmps87
 go_wp2_with fail
 refine (cval.out _).mono ?_
 rintro _ w2 ⟨rfl, hb2⟩
 have HB2 := Lib.hid (below_next HB.out hb2)
 have HX2 := (Blk.new w 26 #[.int .i64 5, .bool false, .int .i64 0, .string ⟨#[]⟩, .slice NA 0 nc, .slice A 0 c]).below hb2 (by simp)
 have c0 : w2.cell? ⟨w.heap.size, 0, none⟩ = some (.int .i64 5) := HX2.cell 0
 clear hb2 HX2
 go_wp2_with fail
 go_ret
 exact ⟨by rw [hv.out]; rfl, HB2.out⟩
theorem alone_6 (b : Bool) (n : Int) (s : List UInt8) (y : ByteArray) (names : List (List UInt8)) (kids : List Jv) (m nl : Nat) (hm : kids.length = m) (hn : names.length = nl) (hy : (⟨s.toArray⟩ : ByteArray) = y) (NA : Option Addr) (nc : Nat) (A : Option Addr) (c : Nat) (w : World)
  (cval : Hid (∀ W, CallsB 114 (.string y) (validL s) W)) (cnam : Hid (∀ W, Below w.heap.size w W → CallsB 115 (.agg #[.int .i64 6, .bool b, .int .i64 n, .string y, .slice NA nl nc, .slice A m c]) (namesB names kids.length) W)) :
  CallsB 87 (.agg #[.int .i64 6, .bool b, .int .i64 n, .string y, .slice NA nl nc, .slice A m c]) (aloneB validL (.mk 6 b n s names kids)) w := by
 show Calls _ _ _ _ _
 cases b
 case true =>
  have HB := Lib.hid ((Below.refl w.heap.size w).alloc (Nat.le_refl _) (.cells #[.int .i64 6, .bool true, .int .i64 n, .string y, .slice NA nl nc, .slice A m c] 26))
  have hv : Hid (aloneB validL (.mk 6 true n s names kids) = false) := by
   show _ = _
   simp [aloneB]
  clear hm hn hy
  go_enter Tryz.func87, Tryz.ntmps87
  go_wp2_with fail
  go_ret
  exact ⟨by rw [hv.out]; rfl, HB.out⟩
 by_cases hn0 : n = 0
 case neg =>
  have f1 : (n == 0) = false := by simpa using hn0
  have f2 : (n != 0) = true := by simpa using hn0
  have HB := Lib.hid ((Below.refl w.heap.size w).alloc (Nat.le_refl _) (.cells #[.int .i64 6, .bool false, .int .i64 n, .string y, .slice NA nl nc, .slice A m c] 26))
  have hv : Hid (aloneB validL (.mk 6 false n s names kids) = false) := by
   show _ = _
   simp [aloneB, hn0]
  clear hm hn hy
  go_enter Tryz.func87, Tryz.ntmps87
  go_wp2_with fail
  go_ret
  exact ⟨by rw [hv.out]; rfl, HB.out⟩
 subst hn0
 by_cases hs0 : s = []
 case neg =>
  obtain ⟨g1, g2, g3, g4⟩ := str_not hy hs0
  have HB := Lib.hid ((Below.refl w.heap.size w).alloc (Nat.le_refl _) (.cells #[.int .i64 6, .bool false, .int .i64 0, .string y, .slice NA nl nc, .slice A m c] 26))
  have hv : Hid (aloneB validL (.mk 6 false 0 s names kids) = false) := by
   show _ = _
   simp [aloneB, hs0]
  clear hm hn hy
  go_enter Tryz.func87, Tryz.ntmps87
  go_wp2_with fail
  go_ret
  exact ⟨by rw [hv.out]; rfl, HB.out⟩
 obtain rfl := str_nothing hy hs0
 subst hs0
 clear hy
 have hke : kids.isEmpty = decide (m = 0) := by rw [← hm]; cases kids <;> simp
 have hne : names.isEmpty = decide (nl = 0) := by rw [← hn]; cases names <;> simp
 have HM := Lib.hid (And.intro hm hn)
 clear hm hn
 by_cases hm0 : m = 0
 case neg =>
  have k1 : decide (0 < (m : Int)) = true := by simp; omega
  have k2 : decide (0 < m) = true := by simp; omega
  by_cases hl0 : nl = 0
  case neg =>
   have l1 : decide (0 < (nl : Int)) = true := by simp; omega
   have l2 : decide (0 < nl) = true := by simp; omega
   have HB := Lib.hid ((Below.refl w.heap.size w).alloc (Nat.le_refl _) (.cells #[.int .i64 6, .bool false, .int .i64 0, .string ⟨#[]⟩, .slice NA nl nc, .slice A m c] 26))
   cases hval : validL []
   case false =>
    have hv : Hid (aloneB validL (.mk 6 false 0 [] names kids) = false) := by
     show _ = _
     simp [aloneB, hval, hm0, hke, hl0, hne]
    rw [hval] at cval
    clear hke hne hval
    go_enter Tryz.func87, Tryz.ntmps87
    go_wp2_with fail
    refine (cval.out _).mono ?_
    rintro _ w2 ⟨rfl, hb2⟩
    have HB2 := Lib.hid (below_next HB.out hb2)
    clear hb2
    go_wp2_with fail
    go_ret
    exact ⟨by rw [hv.out]; rfl, HB2.out⟩
   have hv : Hid (aloneB validL (.mk 6 false 0 [] names kids) = namesB names kids.length) := by
    show _ = _
    simp [aloneB, hval, namesB, hm0, hke, hl0, hne]
   rw [hval] at cval
   clear hke hne hval
   have HX := Lib.hid (Blk.new w 26 #[.int .i64 6, .bool false, .int .i64 0, .string ⟨#[]⟩, .slice NA nl nc, .slice A m c])
   go_enter Tryz.func87, Tryz.ntmps87
   go_wp2_with fail
   refine (cval.out _).mono ?_
   rintro _ w2 ⟨rfl, hb2⟩
   have HB2 := Lib.hid (below_next HB.out hb2)
   have HX2 := HX.out.below hb2 HX.out.lt
   have c0 : w2.cell? ⟨w.heap.size, 0, none⟩ = some (.int .i64 6) := HX2.cell 0
   have c1 : w2.cell? ⟨w.heap.size, 1, none⟩ = some (.bool false) := HX2.cell 1
   have c2 : w2.cell? ⟨w.heap.size, 2, none⟩ = some (.int .i64 0) := HX2.cell 2
   have c3 : w2.cell? ⟨w.heap.size, 3, none⟩ = some (.string ⟨#[]⟩) := HX2.cell 3
   have c4 : w2.cell? ⟨w.heap.size, 4, none⟩ = some (.slice NA nl nc) := HX2.cell 4
   have c5 : w2.cell? ⟨w.heap.size, 5, none⟩ = some (.slice A m c) := HX2.cell 5
   clear hb2 HX2
   go_wp2_with fail
   refine (cnam.out _ HB2.out).mono ?_
   rintro _ w3 ⟨rfl, hb3⟩
   have HB3 := Lib.hid (below_next HB2.out hb3)
   clear hb3
   go_wp2_with fail
   go_ret
   exact ⟨by rw [hv.out]; rfl, HB3.out⟩
  subst hl0
  have HB := Lib.hid ((Below.refl w.heap.size w).alloc (Nat.le_refl _) (.cells #[.int .i64 6, .bool false, .int .i64 0, .string ⟨#[]⟩, .slice NA 0 nc, .slice A m c] 26))
  cases hval : validL []
  case false =>
   have hv : Hid (aloneB validL (.mk 6 false 0 [] names kids) = false) := by
    show _ = _
    simp [aloneB, hval, hm0, hke, hne]
   rw [hval] at cval
   clear hke hne hval
   go_enter Tryz.func87, Tryz.ntmps87
   go_wp2_with fail
   refine (cval.out _).mono ?_
   rintro _ w2 ⟨rfl, hb2⟩
   have HB2 := Lib.hid (below_next HB.out hb2)
   clear hb2
   go_wp2_with fail
   go_ret
   exact ⟨by rw [hv.out]; rfl, HB2.out⟩
  have hv : Hid (aloneB validL (.mk 6 false 0 [] names kids) = namesB names kids.length) := by
   show _ = _
   simp [aloneB, hval, namesB, hm0, hke, hne]
  rw [hval] at cval
  clear hke hne hval
  have HX := Lib.hid (Blk.new w 26 #[.int .i64 6, .bool false, .int .i64 0, .string ⟨#[]⟩, .slice NA 0 nc, .slice A m c])
  go_enter Tryz.func87, Tryz.ntmps87
  go_wp2_with fail
  refine (cval.out _).mono ?_
  rintro _ w2 ⟨rfl, hb2⟩
  have HB2 := Lib.hid (below_next HB.out hb2)
  have HX2 := HX.out.below hb2 HX.out.lt
  have c0 : w2.cell? ⟨w.heap.size, 0, none⟩ = some (.int .i64 6) := HX2.cell 0
  have c1 : w2.cell? ⟨w.heap.size, 1, none⟩ = some (.bool false) := HX2.cell 1
  have c2 : w2.cell? ⟨w.heap.size, 2, none⟩ = some (.int .i64 0) := HX2.cell 2
  have c3 : w2.cell? ⟨w.heap.size, 3, none⟩ = some (.string ⟨#[]⟩) := HX2.cell 3
  have c4 : w2.cell? ⟨w.heap.size, 4, none⟩ = some (.slice NA 0 nc) := HX2.cell 4
  have c5 : w2.cell? ⟨w.heap.size, 5, none⟩ = some (.slice A m c) := HX2.cell 5
  clear hb2 HX2
  go_wp2_with fail
  refine (cnam.out _ HB2.out).mono ?_
  rintro _ w3 ⟨rfl, hb3⟩
  have HB3 := Lib.hid (below_next HB2.out hb3)
  clear hb3
  go_wp2_with fail
  go_ret
  exact ⟨by rw [hv.out]; rfl, HB3.out⟩
 subst hm0
 by_cases hl0 : nl = 0
 case neg =>
  have l1 : decide (0 < (nl : Int)) = true := by simp; omega
  have l2 : decide (0 < nl) = true := by simp; omega
  have HB := Lib.hid ((Below.refl w.heap.size w).alloc (Nat.le_refl _) (.cells #[.int .i64 6, .bool false, .int .i64 0, .string ⟨#[]⟩, .slice NA nl nc, .slice A 0 c] 26))
  cases hval : validL []
  case false =>
   have hv : Hid (aloneB validL (.mk 6 false 0 [] names kids) = false) := by
    show _ = _
    simp [aloneB, hval, hke, hl0, hne]
   rw [hval] at cval
   clear hke hne hval
   go_enter Tryz.func87, Tryz.ntmps87
   go_wp2_with fail
   refine (cval.out _).mono ?_
   rintro _ w2 ⟨rfl, hb2⟩
   have HB2 := Lib.hid (below_next HB.out hb2)
   clear hb2
   go_wp2_with fail
   go_ret
   exact ⟨by rw [hv.out]; rfl, HB2.out⟩
  have hv : Hid (aloneB validL (.mk 6 false 0 [] names kids) = namesB names kids.length) := by
   show _ = _
   simp [aloneB, hval, namesB, hke, hl0, hne]
  rw [hval] at cval
  clear hke hne hval
  have HX := Lib.hid (Blk.new w 26 #[.int .i64 6, .bool false, .int .i64 0, .string ⟨#[]⟩, .slice NA nl nc, .slice A 0 c])
  go_enter Tryz.func87, Tryz.ntmps87
  go_wp2_with fail
  refine (cval.out _).mono ?_
  rintro _ w2 ⟨rfl, hb2⟩
  have HB2 := Lib.hid (below_next HB.out hb2)
  have HX2 := HX.out.below hb2 HX.out.lt
  have c0 : w2.cell? ⟨w.heap.size, 0, none⟩ = some (.int .i64 6) := HX2.cell 0
  have c1 : w2.cell? ⟨w.heap.size, 1, none⟩ = some (.bool false) := HX2.cell 1
  have c2 : w2.cell? ⟨w.heap.size, 2, none⟩ = some (.int .i64 0) := HX2.cell 2
  have c3 : w2.cell? ⟨w.heap.size, 3, none⟩ = some (.string ⟨#[]⟩) := HX2.cell 3
  have c4 : w2.cell? ⟨w.heap.size, 4, none⟩ = some (.slice NA nl nc) := HX2.cell 4
  have c5 : w2.cell? ⟨w.heap.size, 5, none⟩ = some (.slice A 0 c) := HX2.cell 5
  clear hb2 HX2
  go_wp2_with fail
  refine (cnam.out _ HB2.out).mono ?_
  rintro _ w3 ⟨rfl, hb3⟩
  have HB3 := Lib.hid (below_next HB2.out hb3)
  clear hb3
  go_wp2_with fail
  go_ret
  exact ⟨by rw [hv.out]; rfl, HB3.out⟩
 subst hl0
 have HB := Lib.hid ((Below.refl w.heap.size w).alloc (Nat.le_refl _) (.cells #[.int .i64 6, .bool false, .int .i64 0, .string ⟨#[]⟩, .slice NA 0 nc, .slice A 0 c] 26))
 cases hval : validL []
 case false =>
  have hv : Hid (aloneB validL (.mk 6 false 0 [] names kids) = false) := by
   show _ = _
   simp [aloneB, hval, hke, hne]
  rw [hval] at cval
  clear hke hne hval
  go_enter Tryz.func87, Tryz.ntmps87
  go_wp2_with fail
  refine (cval.out _).mono ?_
  rintro _ w2 ⟨rfl, hb2⟩
  have HB2 := Lib.hid (below_next HB.out hb2)
  clear hb2
  go_wp2_with fail
  go_ret
  exact ⟨by rw [hv.out]; rfl, HB2.out⟩
 have hv : Hid (aloneB validL (.mk 6 false 0 [] names kids) = namesB names kids.length) := by
  show _ = _
  simp [aloneB, hval, namesB, hke, hne]
 rw [hval] at cval
 clear hke hne hval
 have HX := Lib.hid (Blk.new w 26 #[.int .i64 6, .bool false, .int .i64 0, .string ⟨#[]⟩, .slice NA 0 nc, .slice A 0 c])
 go_enter Tryz.func87, Tryz.ntmps87
 go_wp2_with fail
 refine (cval.out _).mono ?_
 rintro _ w2 ⟨rfl, hb2⟩
 have HB2 := Lib.hid (below_next HB.out hb2)
 have HX2 := HX.out.below hb2 HX.out.lt
 have c0 : w2.cell? ⟨w.heap.size, 0, none⟩ = some (.int .i64 6) := HX2.cell 0
 have c1 : w2.cell? ⟨w.heap.size, 1, none⟩ = some (.bool false) := HX2.cell 1
 have c2 : w2.cell? ⟨w.heap.size, 2, none⟩ = some (.int .i64 0) := HX2.cell 2
 have c3 : w2.cell? ⟨w.heap.size, 3, none⟩ = some (.string ⟨#[]⟩) := HX2.cell 3
 have c4 : w2.cell? ⟨w.heap.size, 4, none⟩ = some (.slice NA 0 nc) := HX2.cell 4
 have c5 : w2.cell? ⟨w.heap.size, 5, none⟩ = some (.slice A 0 c) := HX2.cell 5
 clear hb2 HX2
 go_wp2_with fail
 refine (cnam.out _ HB2.out).mono ?_
 rintro _ w3 ⟨rfl, hb3⟩
 have HB3 := Lib.hid (below_next HB2.out hb3)
 clear hb3
 go_wp2_with fail
 go_ret
 exact ⟨by rw [hv.out]; rfl, HB3.out⟩
end Go.Proofs.YtieppmppdmcleaaGreatDoor

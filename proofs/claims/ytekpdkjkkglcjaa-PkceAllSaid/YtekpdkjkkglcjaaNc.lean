/- Challenges: Number, Key, Challenge, May, Holds, of the program and of the document. No condition of its own. Printed by wip/tools/genNc.py. -/
import Derived.Test.YtekpdkjkkglcjaaNb
set_option linter.unusedVariables false
set_option linter.unusedSimpArgs false
set_option maxRecDepth 20000
namespace Go.Proofs.Ytekpdkjkkglcjaa
open Go.RowKit
def numO (l : List UInt8) : Option Int := match readO l with | none => none | some t => if t.kind = 2 then some t.num else none
def hashT (n : Int) : Tm := .mk 3 0 ⟨#[]⟩ [.mk 2 n ⟨#[]⟩ []]
def keyL (n : Int) : List UInt8 := markT (.mk 2 n ⟨#[]⟩ [])
def chalO (l : List UInt8) : Option (List UInt8) := (numO l).map fun n => markT (hashT n)
def mayC (l : List UInt8) : Bool := match readO l with | none => false | some t => t.kind == 3
def holdsB (c v : List UInt8) : Bool := match chalO v with | none => false | some x => x == c
def toldV (o : Option (List UInt8)) : Value := match o with | none => .nilIface | some x => .iface 9 (.string ⟨x.toArray⟩)
theorem tolist_mk (l : List UInt8) : (⟨l.toArray⟩ : ByteArray).toList = l := by rw [ByteArray.toList_eq]
theorem hash_tm (n : Int) {w : World} {g : Nat} (h : Blk w g 35 #[.int .i64 2, .int .i64 n, .string ⟨#[]⟩, .slice none 0 0]) : TmV w 0 (hashT n) [.int .i64 3, .int .i64 0, .string ⟨#[]⟩, .slice (some ⟨g, 0, none⟩) 1 1] :=
  one_kid h (tm_leaf w 0 2 n ⟨#[]⟩) (Nat.zero_le _) (Nat.zero_le _)
theorem ta_str (s : ByteArray) (w : World) : (Instr.typeAssert (.iface 9 (.string s)) 20 9 true).run Try.prog w = .ok (.tuple #[.string s, .bool true]) w := by first | rfl | kernel_rfl
theorem ta_none (w : World) : (Instr.typeAssert .nilIface 20 9 true).run Try.prog w = .ok (.tuple #[.string ⟨#[]⟩, .bool false]) w := by first | rfl | kernel_rfl
set_option maxHeartbeats 2000000 in
theorem mnum_walk (s : ByteArray) (l : List UInt8) (hs : s.data.toList = l) (w : World) (hm : s.size ≤ 1000000) :
    Calls Try.prog 34 #[.string s] w fun e w' => e = .returned (.tuple #[.int .i64 ((numO l).getD 0), .bool (numO l).isSome]) ∧ Below w.heap.size w w' := by
  have cr := read_walk s l hs w hm
  have hv : Hid (numO l = match readO l with | none => none | some t => if t.kind = 2 then some t.num else none) := rfl
  cases hO : readO l with
  | none =>
    rw [hO] at cr
    have hv2 : Hid (numO l = none) := by show _ = _; rw [hv.out, hO]
    have CR := Lib.hid cr
    clear cr hO hv
    go_enter Try.func34, Try.ntmps34
    go_wp2_with fail
    refine CR.out.mono ?_
    rintro _ w1 ⟨kd, nm, s2, A2, m2, c2, rfl, htv, hb⟩
    have HB := Lib.hid (hb.alloc hb.size (.cells #[.int .i64 kd, .int .i64 nm, .string s2, .slice A2 m2 c2] 35))
    clear CR htv hb
    go_wp2_with (refine wpList_store_fresh w1 rfl 35 _ _ rfl _ #[.int .i64 kd, .int .i64 nm, .string s2, .slice A2 m2 c2] _ rfl rfl rfl term_size (ones4 _ _ _ _ _ _) ?_)
    go_ret2
    rw [hv2.out]
    exact ⟨rfl, HB.out⟩
  | some t =>
    rw [hO] at cr
    have hv2 : Hid (numO l = if t.kind = 2 then some t.num else none) := by show _ = _; rw [hv.out, hO]
    have CR := Lib.hid cr
    clear cr hO hv
    go_enter Try.func34, Try.ntmps34
    go_wp2_with fail
    refine CR.out.mono ?_
    rintro _ w1 ⟨kd, nm, s2, A2, m2, c2, rfl, htv, hb⟩
    have htk : kd = t.kind ∧ nm = t.num := TmV.kind_num htv
    have hv3 : Hid (numO l = if kd = 2 then some nm else none) := by show _ = _; rw [hv2.out, htk.1, htk.2]
    have hbx := Blk.new w1 35 #[.int .i64 kd, .int .i64 nm, .string s2, .slice A2 m2 c2]
    have k0 : (w1.alloc (.cells #[.int .i64 kd, .int .i64 nm, .string s2, .slice A2 m2 c2] 35)).cell? ⟨w1.heap.size, 0, none⟩ = some (.int .i64 kd) := hbx.cell 0
    have k1 : (w1.alloc (.cells #[.int .i64 kd, .int .i64 nm, .string s2, .slice A2 m2 c2] 35)).cell? ⟨w1.heap.size, 1, none⟩ = some (.int .i64 nm) := hbx.cell 1
    have HB := Lib.hid (hb.alloc hb.size (.cells #[.int .i64 kd, .int .i64 nm, .string s2, .slice A2 m2 c2] 35))
    clear CR htv hb htk hbx
    by_cases h2 : kd = 2
    · have e2 : (kd != 2) = false := by rw [h2]; rfl
      have hv4 : Hid (numO l = some nm) := by show _ = _; rw [hv3.out, if_pos h2]
      clear h2
      go_wp2_with (refine wpList_store_fresh w1 rfl 35 _ _ rfl _ #[.int .i64 kd, .int .i64 nm, .string s2, .slice A2 m2 c2] _ rfl rfl rfl term_size (ones4 _ _ _ _ _ _) ?_)
      go_ret2
      rw [hv4.out]
      exact ⟨rfl, HB.out⟩
    · have e2 : (kd != 2) = true := by rw [bne_iff_ne]; exact h2
      have hv4 : Hid (numO l = none) := by show _ = _; rw [hv3.out, if_neg h2]
      clear h2
      go_wp2_with (refine wpList_store_fresh w1 rfl 35 _ _ rfl _ #[.int .i64 kd, .int .i64 nm, .string s2, .slice A2 m2 c2] _ rfl rfl rfl term_size (ones4 _ _ _ _ _ _) ?_)
      go_ret2
      rw [hv4.out]
      exact ⟨rfl, HB.out⟩
set_option maxHeartbeats 2000000 in
theorem rmnum_walk (s : ByteArray) (l : List UInt8) (hs : s.data.toList = l) (w : World) (hm : s.size ≤ 1000000) :
    Calls Try.prog 18 #[.string s] w fun e w' => e = .returned (.tuple #[.int .i64 ((numO l).getD 0), .bool (numO l).isSome]) ∧ Below w.heap.size w w' := by
  have cr := rread_walk s l hs w hm
  have hv : Hid (numO l = match readO l with | none => none | some t => if t.kind = 2 then some t.num else none) := rfl
  cases hO : readO l with
  | none =>
    rw [hO] at cr
    have hv2 : Hid (numO l = none) := by show _ = _; rw [hv.out, hO]
    have CR := Lib.hid cr
    clear cr hO hv
    go_enter Try.func18, Try.ntmps18
    go_wp2_with fail
    refine CR.out.mono ?_
    rintro _ w1 ⟨kd, nm, s2, A2, m2, c2, rfl, htv, hb⟩
    have HB := Lib.hid (hb.alloc hb.size (.cells #[.int .i64 kd, .int .i64 nm, .string s2, .slice A2 m2 c2] 35))
    clear CR htv hb
    go_wp2_with (refine wpList_store_fresh w1 rfl 35 _ _ rfl _ #[.int .i64 kd, .int .i64 nm, .string s2, .slice A2 m2 c2] _ rfl rfl rfl term_size (ones4 _ _ _ _ _ _) ?_)
    go_ret2
    rw [hv2.out]
    exact ⟨rfl, HB.out⟩
  | some t =>
    rw [hO] at cr
    have hv2 : Hid (numO l = if t.kind = 2 then some t.num else none) := by show _ = _; rw [hv.out, hO]
    have CR := Lib.hid cr
    clear cr hO hv
    go_enter Try.func18, Try.ntmps18
    go_wp2_with fail
    refine CR.out.mono ?_
    rintro _ w1 ⟨kd, nm, s2, A2, m2, c2, rfl, htv, hb⟩
    have htk : kd = t.kind ∧ nm = t.num := TmV.kind_num htv
    have hv3 : Hid (numO l = if kd = 2 then some nm else none) := by show _ = _; rw [hv2.out, htk.1, htk.2]
    have hbx := Blk.new w1 35 #[.int .i64 kd, .int .i64 nm, .string s2, .slice A2 m2 c2]
    have k0 : (w1.alloc (.cells #[.int .i64 kd, .int .i64 nm, .string s2, .slice A2 m2 c2] 35)).cell? ⟨w1.heap.size, 0, none⟩ = some (.int .i64 kd) := hbx.cell 0
    have k1 : (w1.alloc (.cells #[.int .i64 kd, .int .i64 nm, .string s2, .slice A2 m2 c2] 35)).cell? ⟨w1.heap.size, 1, none⟩ = some (.int .i64 nm) := hbx.cell 1
    have HB := Lib.hid (hb.alloc hb.size (.cells #[.int .i64 kd, .int .i64 nm, .string s2, .slice A2 m2 c2] 35))
    clear CR htv hb htk hbx
    by_cases h2 : kd = 2
    · have e2 : (kd != 2) = false := by rw [h2]; rfl
      have hv4 : Hid (numO l = some nm) := by show _ = _; rw [hv3.out, if_pos h2]
      clear h2
      go_wp2_with (refine wpList_store_fresh w1 rfl 35 _ _ rfl _ #[.int .i64 kd, .int .i64 nm, .string s2, .slice A2 m2 c2] _ rfl rfl rfl term_size (ones4 _ _ _ _ _ _) ?_)
      go_ret2
      rw [hv4.out]
      exact ⟨rfl, HB.out⟩
    · have e2 : (kd != 2) = true := by rw [bne_iff_ne]; exact h2
      have hv4 : Hid (numO l = none) := by show _ = _; rw [hv3.out, if_neg h2]
      clear h2
      go_wp2_with (refine wpList_store_fresh w1 rfl 35 _ _ rfl _ #[.int .i64 kd, .int .i64 nm, .string s2, .slice A2 m2 c2] _ rfl rfl rfl term_size (ones4 _ _ _ _ _ _) ?_)
      go_ret2
      rw [hv4.out]
      exact ⟨rfl, HB.out⟩
set_option maxHeartbeats 2000000 in
theorem cmay_walk (s : ByteArray) (l : List UInt8) (hs : s.data.toList = l) (w : World) (hm : s.size ≤ 1000000) :
    Calls Try.prog 13 #[.string s] w fun e w' => e = .returned (.bool (mayC l)) ∧ Below w.heap.size w w' := by
  have cr := read_walk s l hs w hm
  have hv : Hid (mayC l = match readO l with | none => false | some t => t.kind == 3) := rfl
  cases hO : readO l with
  | none =>
    rw [hO] at cr
    have hv2 : Hid (mayC l = false) := by show _ = _; rw [hv.out, hO]
    have CR := Lib.hid cr
    clear cr hO hv
    go_enter Try.func13, Try.ntmps13
    go_wp2_with fail
    refine CR.out.mono ?_
    rintro _ w1 ⟨kd, nm, s2, A2, m2, c2, rfl, htv, hb⟩
    have HB := Lib.hid (hb.alloc hb.size (.cells #[.int .i64 kd, .int .i64 nm, .string s2, .slice A2 m2 c2] 35))
    clear CR htv hb
    go_wp2_with (refine wpList_store_fresh w1 rfl 35 _ _ rfl _ #[.int .i64 kd, .int .i64 nm, .string s2, .slice A2 m2 c2] _ rfl rfl rfl term_size (ones4 _ _ _ _ _ _) ?_)
    go_ret
    rw [hv2.out]
    exact ⟨rfl, HB.out⟩
  | some t =>
    rw [hO] at cr
    have hv2 : Hid (mayC l = (t.kind == 3)) := by show _ = _; rw [hv.out, hO]
    have CR := Lib.hid cr
    clear cr hO hv
    go_enter Try.func13, Try.ntmps13
    go_wp2_with fail
    refine CR.out.mono ?_
    rintro _ w1 ⟨kd, nm, s2, A2, m2, c2, rfl, htv, hb⟩
    have htk : kd = t.kind ∧ nm = t.num := TmV.kind_num htv
    have hv3 : Hid (mayC l = (kd == 3)) := by show _ = _; rw [hv2.out, htk.1]
    have hbx := Blk.new w1 35 #[.int .i64 kd, .int .i64 nm, .string s2, .slice A2 m2 c2]
    have k0 : (w1.alloc (.cells #[.int .i64 kd, .int .i64 nm, .string s2, .slice A2 m2 c2] 35)).cell? ⟨w1.heap.size, 0, none⟩ = some (.int .i64 kd) := hbx.cell 0
    have HB := Lib.hid (hb.alloc hb.size (.cells #[.int .i64 kd, .int .i64 nm, .string s2, .slice A2 m2 c2] 35))
    clear CR htv hb htk hbx
    go_wp2_with (refine wpList_store_fresh w1 rfl 35 _ _ rfl _ #[.int .i64 kd, .int .i64 nm, .string s2, .slice A2 m2 c2] _ rfl rfl rfl term_size (ones4 _ _ _ _ _ _) ?_)
    go_ret
    rw [hv3.out]
    exact ⟨rfl, HB.out⟩
set_option maxHeartbeats 2000000 in
theorem rcmay_walk (s : ByteArray) (l : List UInt8) (hs : s.data.toList = l) (w : World) (hm : s.size ≤ 1000000) :
    Calls Try.prog 14 #[.string s] w fun e w' => e = .returned (.bool (mayC l)) ∧ Below w.heap.size w w' := by
  have cr := rread_walk s l hs w hm
  have hv : Hid (mayC l = match readO l with | none => false | some t => t.kind == 3) := rfl
  cases hO : readO l with
  | none =>
    rw [hO] at cr
    have hv2 : Hid (mayC l = false) := by show _ = _; rw [hv.out, hO]
    have CR := Lib.hid cr
    clear cr hO hv
    go_enter Try.func14, Try.ntmps14
    go_wp2_with fail
    refine CR.out.mono ?_
    rintro _ w1 ⟨kd, nm, s2, A2, m2, c2, rfl, htv, hb⟩
    have HB := Lib.hid (hb.alloc hb.size (.cells #[.int .i64 kd, .int .i64 nm, .string s2, .slice A2 m2 c2] 35))
    clear CR htv hb
    go_wp2_with (refine wpList_store_fresh w1 rfl 35 _ _ rfl _ #[.int .i64 kd, .int .i64 nm, .string s2, .slice A2 m2 c2] _ rfl rfl rfl term_size (ones4 _ _ _ _ _ _) ?_)
    go_ret
    rw [hv2.out]
    exact ⟨rfl, HB.out⟩
  | some t =>
    rw [hO] at cr
    have hv2 : Hid (mayC l = (t.kind == 3)) := by show _ = _; rw [hv.out, hO]
    have CR := Lib.hid cr
    clear cr hO hv
    go_enter Try.func14, Try.ntmps14
    go_wp2_with fail
    refine CR.out.mono ?_
    rintro _ w1 ⟨kd, nm, s2, A2, m2, c2, rfl, htv, hb⟩
    have htk : kd = t.kind ∧ nm = t.num := TmV.kind_num htv
    have hv3 : Hid (mayC l = (kd == 3)) := by show _ = _; rw [hv2.out, htk.1]
    have hbx := Blk.new w1 35 #[.int .i64 kd, .int .i64 nm, .string s2, .slice A2 m2 c2]
    have k0 : (w1.alloc (.cells #[.int .i64 kd, .int .i64 nm, .string s2, .slice A2 m2 c2] 35)).cell? ⟨w1.heap.size, 0, none⟩ = some (.int .i64 kd) := hbx.cell 0
    have HB := Lib.hid (hb.alloc hb.size (.cells #[.int .i64 kd, .int .i64 nm, .string s2, .slice A2 m2 c2] 35))
    clear CR htv hb htk hbx
    go_wp2_with (refine wpList_store_fresh w1 rfl 35 _ _ rfl _ #[.int .i64 kd, .int .i64 nm, .string s2, .slice A2 m2 c2] _ rfl rfl rfl term_size (ones4 _ _ _ _ _ _) ?_)
    go_ret
    rw [hv3.out]
    exact ⟨rfl, HB.out⟩
set_option maxHeartbeats 1000000 in
theorem key_walk (n : Int) (w : World) : Calls Try.prog 7 #[.int .i64 n] w fun e w' => e = .returned (.string ⟨(keyL n).toArray⟩) ∧ Below w.heap.size w w' := by
  go_enter Try.func7, Try.ntmps7
  go_wp2_with fail
  refine (n_walk n w).mono ?_
  rintro _ w1 ⟨rfl, hb1⟩
  go_wp2_with fail
  refine (rtext_walk (.mk 2 n ⟨#[]⟩ []) 2 n ⟨#[]⟩ none 0 0 w1 (tm_leaf _ _ _ _ _)).mono ?_
  rintro _ w2 ⟨rfl, hb2⟩
  have HB := Lib.hid (below_next hb1 hb2)
  clear hb1 hb2
  go_wp2_with fail
  go_ret
  exact ⟨rfl, HB.out⟩
set_option maxHeartbeats 2000000 in
theorem told_walk (s : ByteArray) (l : List UInt8) (hs : s.data.toList = l) (w : World) (hm : s.size ≤ 1000000) :
    Calls Try.prog 27 #[.string s] w fun e w' => e = .returned (toldV (chalO l)) ∧ Below w.heap.size w w' := by
  have cn := mnum_walk s l hs w hm
  have hv : Hid (chalO l = (numO l).map fun n => markT (hashT n)) := rfl
  cases hO : numO l with
  | none =>
    rw [hO] at cn
    have hv2 : Hid (chalO l = none) := by show _ = _; rw [hv.out, hO]; rfl
    have CN := Lib.hid cn
    clear cn hO hv
    go_enter Try.func27, Try.ntmps27
    go_wp2_with fail
    refine CN.out.mono ?_
    rintro _ w1 ⟨rfl, hb⟩
    go_wp2_with fail
    go_ret
    rw [hv2.out]
    exact ⟨rfl, hb⟩
  | some n =>
    rw [hO] at cn
    have hv2 : Hid (chalO l = some (markT (hashT n))) := by show _ = _; rw [hv.out, hO]; rfl
    have CN := Lib.hid cn
    clear cn hO hv
    go_enter Try.func27, Try.ntmps27
    go_wp2_with fail
    refine CN.out.mono ?_
    rintro _ w1 ⟨rfl, hb⟩
    have hbx := Blk.new w1 35 #[.int .i64 2, .int .i64 n, .string ⟨#[]⟩, .slice none 0 0]
    have ct := Lib.hid (text_walk (hashT n) 3 0 ⟨#[]⟩ (some ⟨w1.heap.size, 0, none⟩) 1 1 _ (hash_tm n hbx))
    have HB := Lib.hid (hb.alloc hb.size (.cells #[.int .i64 2, .int .i64 n, .string ⟨#[]⟩, .slice none 0 0] 35))
    clear hb CN hbx
    go_wp2_with fail
    refine ct.out.mono ?_
    rintro _ w2 ⟨rfl, hb2⟩
    have HB2 := Lib.hid (below_next HB.out hb2)
    clear hb2 ct
    go_wp2_with fail
    go_ret
    rw [hv2.out]
    exact ⟨rfl, HB2.out⟩
set_option maxHeartbeats 2000000 in
theorem chal_walk (s : ByteArray) (l : List UInt8) (hs : s.data.toList = l) (w : World) (hm : s.size ≤ 1000000) :
    Calls Try.prog 12 #[.string s] w fun e w' => e = .returned (.tuple #[.string ⟨((chalO l).getD []).toArray⟩, .bool (chalO l).isSome]) ∧ Below w.heap.size w w' := by
  have ct := told_walk s l hs w hm
  have h1 := ta_str
  have h2 := ta_none
  cases hO : chalO l with
  | none =>
    rw [hO, show toldV none = Value.nilIface from rfl] at ct
    have CT := Lib.hid ct
    clear ct hO
    go_enter Try.func12, Try.ntmps12
    go_wp2_with fail
    refine CT.out.mono ?_
    rintro _ w1 ⟨rfl, hb⟩
    go_wp2_with fail
    go_ret2
    exact ⟨rfl, hb⟩
  | some x =>
    rw [hO, show toldV (some x) = .iface 9 (.string ⟨x.toArray⟩) from rfl] at ct
    have CT := Lib.hid ct
    clear ct hO
    go_enter Try.func12, Try.ntmps12
    go_wp2_with fail
    refine CT.out.mono ?_
    rintro _ w1 ⟨rfl, hb⟩
    go_wp2_with fail
    go_ret2
    exact ⟨rfl, hb⟩
set_option maxHeartbeats 2000000 in
theorem rchal_walk (s : ByteArray) (l : List UInt8) (hs : s.data.toList = l) (w : World) (hm : s.size ≤ 1000000) :
    Calls Try.prog 6 #[.string s] w fun e w' => e = .returned (.tuple #[.string ⟨((chalO l).getD []).toArray⟩, .bool (chalO l).isSome]) ∧ Below w.heap.size w w' := by
  have cn := rmnum_walk s l hs w hm
  have hv : Hid (chalO l = (numO l).map fun n => markT (hashT n)) := rfl
  cases hO : numO l with
  | none =>
    rw [hO] at cn
    have hv2 : Hid (chalO l = none) := by show _ = _; rw [hv.out, hO]; rfl
    have CN := Lib.hid cn
    clear cn hO hv
    go_enter Try.func6, Try.ntmps6
    go_wp2_with fail
    refine CN.out.mono ?_
    rintro _ w1 ⟨rfl, hb⟩
    go_wp2_with fail
    go_ret2
    rw [hv2.out]
    exact ⟨rfl, hb⟩
  | some n =>
    rw [hO] at cn
    have hv2 : Hid (chalO l = some (markT (hashT n))) := by show _ = _; rw [hv.out, hO]; rfl
    have CN := Lib.hid cn
    clear cn hO hv
    go_enter Try.func6, Try.ntmps6
    go_wp2_with fail
    refine CN.out.mono ?_
    rintro _ w1 ⟨rfl, hb⟩
    have hb := Lib.hid hb
    clear CN
    go_wp2_with fail
    refine (n_walk n w1).mono ?_
    rintro _ w2 ⟨rfl, hb2⟩
    have HB := Lib.hid (below_next hb.out hb2)
    have hbx := Blk.new w2 35 #[.int .i64 2, .int .i64 n, .string ⟨#[]⟩, .slice none 0 0]
    have HB2 := Lib.hid (HB.out.alloc HB.out.size (.cells #[.int .i64 2, .int .i64 n, .string ⟨#[]⟩, .slice none 0 0] 35))
    have HX := Lib.hid hbx
    clear hb hb2 hbx
    go_wp2_with fail
    refine (t_walk 3 (some ⟨w2.heap.size, 0, none⟩) 1 1 _).mono ?_
    rintro _ w3 ⟨rfl, hb3⟩
    have ct := Lib.hid (rtext_walk (hashT n) 3 0 ⟨#[]⟩ (some ⟨w2.heap.size, 0, none⟩) 1 1 w3 (hash_tm n (HX.out.below hb3 HX.out.lt)))
    have HB3 := Lib.hid (below_next HB2.out hb3)
    clear hb3 HX
    go_wp2_with fail
    refine ct.out.mono ?_
    rintro _ w4 ⟨rfl, hb4⟩
    have HB4 := Lib.hid (below_next HB3.out hb4)
    clear hb4 ct
    go_wp2_with fail
    go_ret2
    rw [hv2.out]
    exact ⟨rfl, HB4.out⟩
set_option maxHeartbeats 2000000 in
theorem rholds_walk (c s : ByteArray) (lc l : List UInt8) (hc : c.data.toList = lc) (hs : s.data.toList = l) (w : World) (hm : s.size ≤ 1000000) :
    Calls Try.prog 16 #[.string c, .string s] w fun e w' => e = .returned (.bool (holdsB lc l)) ∧ Below w.heap.size w w' := by
  have ct := rchal_walk s l hs w hm
  have hv : Hid (holdsB lc l = match chalO l with | none => false | some x => x == lc) := rfl
  have hcl : c.toList = lc := by rw [ByteArray.toList_eq]; exact hc
  cases hO : chalO l with
  | none =>
    rw [hO] at ct
    have hv2 : Hid (holdsB lc l = false) := by show _ = _; rw [hv.out, hO]
    have CT := Lib.hid ct
    clear ct hO hv
    go_enter Try.func16, Try.ntmps16
    go_wp2_with fail
    refine CT.out.mono ?_
    rintro _ w1 ⟨rfl, hb⟩
    go_wp2_with fail
    go_ret
    rw [hv2.out]
    exact ⟨rfl, hb⟩
  | some x =>
    rw [hO] at ct
    have hv2 : Hid (holdsB lc l = (x == lc)) := by show _ = _; rw [hv.out, hO]
    have htx : ∀ y : List UInt8, (⟨y.toArray⟩ : ByteArray).toList = y := tolist_mk
    have CT := Lib.hid ct
    clear ct hO hv
    go_enter Try.func16, Try.ntmps16
    go_wp2_with fail
    refine CT.out.mono ?_
    rintro _ w1 ⟨rfl, hb⟩
    go_wp2_with fail
    go_ret
    rw [hv2.out]
    exact ⟨by first | rfl | simp [tolist_mk], hb⟩
set_option maxHeartbeats 2000000 in
theorem holder1_walk (c s : ByteArray) (lc l : List UInt8) (hc : c.data.toList = lc) (hs : s.data.toList = l) (g : Nat) (w : World) (hm : s.size ≤ 1000000) (hg : Blk w g 9 #[.string c]) :
    Calls Try.prog 40 #[.string s, .pointer (some ⟨g, 0, none⟩)] w fun e w' => e = .returned (.bool (holdsB lc l)) ∧ Below w.heap.size w w' := by
  have ct := chal_walk s l hs w hm
  have hv : Hid (holdsB lc l = match chalO l with | none => false | some x => x == lc) := rfl
  have hcl : c.toList = lc := by rw [ByteArray.toList_eq]; exact hc
  have HG := Lib.hid hg
  clear hg
  cases hO : chalO l with
  | none =>
    rw [hO] at ct
    have hv2 : Hid (holdsB lc l = false) := by show _ = _; rw [hv.out, hO]
    have CT := Lib.hid ct
    clear ct hO hv
    go_enter Try.func40, Try.ntmps40
    go_wp2_with fail
    refine CT.out.mono ?_
    rintro _ w1 ⟨rfl, hb⟩
    go_wp2_with fail
    go_ret
    rw [hv2.out]
    exact ⟨rfl, hb⟩
  | some x =>
    rw [hO] at ct
    have hv2 : Hid (holdsB lc l = (x == lc)) := by show _ = _; rw [hv.out, hO]
    have htx : ∀ y : List UInt8, (⟨y.toArray⟩ : ByteArray).toList = y := tolist_mk
    have CT := Lib.hid ct
    clear ct hO hv
    go_enter Try.func40, Try.ntmps40
    go_wp2_with fail
    refine CT.out.mono ?_
    rintro _ w1 ⟨rfl, hb⟩
    have hg1 : w1.cell? ⟨g, 0, none⟩ = some (.string c) := (HG.out.below hb HG.out.lt).cell 0
    go_wp2_with fail
    go_ret
    rw [hv2.out]
    exact ⟨by first | rfl | simp [tolist_mk], hb⟩
set_option maxHeartbeats 2000000 in
theorem holds_walk (c s : ByteArray) (lc l : List UInt8) (hc : c.data.toList = lc) (hs : s.data.toList = l) (w : World) (hm : s.size ≤ 1000000) :
    Calls Try.prog 15 #[.string c, .string s] w fun e w' => e = .returned (.bool (holdsB lc l)) ∧ Below w.heap.size w w' := by
  have hmf : ∀ (fn : Fn) (first cap : Array Value) (w : World), (Instr.makeFunc fn first cap).run Try.prog w = .ok (.func fn first cap) w := fun _ _ _ _ => rfl
  have hcf : ∀ args w, (callFunc 40 args).run Try.prog w = .ok (.enter 40 args) w := fun args w => by kernel_rfl
  have hb := (Below.refl w.heap.size w).alloc (Nat.le_refl _) (.cells #[.string c] 9)
  have ch : Calls Try.prog 30 #[.string c] w fun e w' => e = .returned (.func (.func 40) #[] #[.pointer (some ⟨w.heap.size, 0, none⟩)]) ∧ w.alloc (.cells #[.string c] 9) = w' := by
    go_enter Try.func30, Try.ntmps30
    go_wp2_with fail
    go_ret
    exact ⟨rfl, rfl⟩
  have cc := Lib.hid (holder1_walk c s lc l hc hs w.heap.size _ hm (Blk.new w 9 #[.string c]))
  have CH := Lib.hid ch
  have HB := Lib.hid hb
  clear ch hb
  go_enter Try.func15, Try.ntmps15
  go_wp2_with fail
  refine CH.out.mono ?_
  rintro _ w1 ⟨rfl, rfl⟩
  go_wp2_with fail
  try rw [hcf, Oper.upon_enter]
  refine cc.out.mono ?_
  rintro _ w2 ⟨rfl, hb2⟩
  have HB2 := Lib.hid (below_next HB.out hb2)
  clear hb2 cc
  go_wp2_with fail
  go_ret
  exact ⟨rfl, HB2.out⟩
end Go.Proofs.Ytekpdkjkkglcjaa

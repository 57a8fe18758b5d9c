import Derived.Test.YtnckjglohaaobaaDr
set_option linter.unusedVariables false
set_option linter.unusedSimpArgs false
namespace Go.Proofs.Ytnckjglohaaobaa
open Go.RowKit
mutual
theorem ord_all : ∀ t : Tm, OrdOk t
  | .mk kind n s kids => ord_node kind n s kids (ord_each kids)
theorem ord_each : ∀ ks : List Tm, ∀ k ∈ ks, OrdOk k
  | [], k, h => by simp at h
  | x :: ks, k, h => by
    have h1 := ord_all x
    have h2 := ord_each ks
    rcases List.mem_cons.1 h with e | h
    · rw [e]; exact h1
    · exact h2 k h
end
theorem sign_zero {a b : Bool} (h : signI a b = 0) : a = false ∧ b = false := by
  cases a <;> cases b <;> simp [signI] at h ⊢
theorem int_zero {a b : Int} (h : signI (decide (a < b)) (decide (b < a)) = 0) : a = b := by
  obtain ⟨h1, h2⟩ := sign_zero h
  rw [decide_eq_false_iff_not] at h1 h2
  omega
theorem bytes_irrefl : ∀ l : List UInt8, Op.bytesLess l l = false
  | [] => by simp [Op.bytesLess]
  | x :: l => by simp [Op.bytesLess, bytes_irrefl l]
theorem text_eq {s s' : ByteArray} (h : s.toList = s'.toList) : s = s' := by
  have e1 := ByteArray.toList_eq s
  have e2 := ByteArray.toList_eq s'
  rw [e1, e2] at h
  cases s; cases s'
  congr
  exact Array.toList_inj.1 h
mutual
theorem ord_self : ∀ t : Tm, ordT t t = 0
  | .mk kind n s kids => by
    have h := ordk_self kids
    rw [ordT]
    have e : ∀ a : Int, signI (decide (a < a)) (decide (a < a)) = 0 := fun a => by rw [decide_eq_false (Int.lt_irrefl a)]; rfl
    rw [if_pos (e kind), if_pos (e n), bytes_irrefl]
    simp [signI, h]
theorem ordk_self : ∀ ks : List Tm, ordK ks ks = 0
  | [] => by rw [ordK]
  | k :: ks => by rw [ordK, if_pos (ord_self k), ordk_self ks]
end
mutual
theorem ord_eq : ∀ t u : Tm, ordT t u = 0 → t = u
  | .mk kind n s kids, .mk kind' n' s' kids', h => by
    rw [ordT] at h
    split at h
    · rename_i h1
      split at h
      · rename_i h2
        split at h
        · rename_i h3
          have e1 := int_zero h1
          have e2 := int_zero h2
          obtain ⟨h4, h5⟩ := sign_zero h3
          rw [h4] at h5
          have e3 : s = s' := text_eq (by simpa using h5)
          have e4 := ordk_eq kids kids' h
          rw [e1, e2, e3, e4]
        · contradiction
      · contradiction
    · contradiction
theorem ordk_eq : ∀ ks ls : List Tm, ordK ks ls = 0 → ks = ls
  | [], [], _ => rfl
  | [], _ :: _, h => by rw [ordK] at h; simp at h
  | _ :: _, [], h => by rw [ordK] at h; simp at h
  | k :: ks, l :: ls, h => by
    rw [ordK] at h
    split at h
    · rename_i h1
      rw [ord_eq k l h1, ordk_eq ks ls h]
    · contradiction
end
theorem ord_iff (t u : Tm) : ordT t u = 0 ↔ t = u := ⟨ord_eq t u, fun h => by rw [h, ord_self]⟩
/-- whether two terms are the same -/
def sameB (t u : Tm) : Bool := ordT t u == 0
theorem sameB_iff {t u : Tm} : sameB t u = true ↔ t = u := by rw [sameB, beq_iff_eq, ord_iff]
theorem same_walk (t u : Tm) (k1 n1 : Int) (s1 : ByteArray) (A1 : Option Addr) (m1 c1 : Nat) (k2 n2 : Int) (s2 : ByteArray) (A2 : Option Addr) (m2 c2 : Nat) (w : World)
    (ht : TmV w 0 t [.int .i64 k1, .int .i64 n1, .string s1, .slice A1 m1 c1]) (hu : TmV w 0 u [.int .i64 k2, .int .i64 n2, .string s2, .slice A2 m2 c2]) :
    Calls Try.prog 18 #[.agg #[.int .i64 k1, .int .i64 n1, .string s1, .slice A1 m1 c1], .agg #[.int .i64 k2, .int .i64 n2, .string s2, .slice A2 m2 c2]] w fun e w' => e = .returned (.bool (sameB t u)) ∧ Below w.heap.size w w' := by
  have hb1 := (Below.refl w.heap.size w).alloc (Nat.le_refl _) (.cells #[.int .i64 k1, .int .i64 n1, .string s1, .slice A1 m1 c1] 24)
  have hb2 := hb1.alloc hb1.size (.cells #[.int .i64 k2, .int .i64 n2, .string s2, .slice A2 m2 c2] 24)
  have hx1 := Lib.hid ((Blk.new w 24 #[.int .i64 k1, .int .i64 n1, .string s1, .slice A1 m1 c1]).alloc (.cells #[.int .i64 k2, .int .i64 n2, .string s2, .slice A2 m2 c2] 24))
  have hx2 := Blk.new (w.alloc (.cells #[.int .i64 k1, .int .i64 n1, .string s1, .slice A1 m1 c1] 24)) 24 #[.int .i64 k2, .int .i64 n2, .string s2, .slice A2 m2 c2]
  rw [show (w.alloc (.cells #[.int .i64 k1, .int .i64 n1, .string s1, .slice A1 m1 c1] 24)).heap.size = w.heap.size + 1 by simp] at hx2
  have HX2 := Lib.hid hx2
  have HB2 := Lib.hid hb2
  have HT := Lib.hid (ht.below hb2)
  have HU := Lib.hid (hu.below hb2)
  have hv : Hid (sameB t u = (ordT t u == 0)) := rfl
  clear hb1 hb2 hx2
  go_enter Try.func18, Try.ntmps18
  go_wp2_with (first
    | (refine wpList_load_at rfl 24 _ rfl ⟨w.heap.size, 0, none⟩ rfl [.int .i64 k1, .int .i64 n1, .string s1, .slice A1 m1 c1] _ (blk_cells hx1.out) Try.underlying24 rfl term_size ?_)
    | (refine wpList_load_at rfl 24 _ rfl ⟨w.heap.size + 1, 0, none⟩ rfl [.int .i64 k2, .int .i64 n2, .string s2, .slice A2 m2 c2] _ (blk_cells HX2.out) Try.underlying24 rfl term_size ?_))
  refine (ord_all t u _ _ _ HT.out HU.out).mono ?_
  rintro _ w5 ⟨rfl, hb5⟩
  have HB5 := Lib.hid (below_next HB2.out hb5)
  clear hb5
  go_wp2_with fail
  go_ret
  rw [hv.out]
  exact ⟨rfl, HB5.out⟩
end Go.Proofs.Ytnckjglohaaobaa

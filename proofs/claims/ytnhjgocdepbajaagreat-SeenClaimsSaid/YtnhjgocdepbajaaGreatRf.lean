import Derived.Test.YtnhjgocdepbajaaGreatA2
set_option linter.unusedVariables false
set_option linter.unusedSimpArgs false
set_option maxRecDepth 20000
namespace Go.Proofs.YtnhjgocdepbajaaGreat
open Go.RowKit Tx
def moreI (l : List UInt8) (i : Nat) : Int := if cont l i then (bt l i : Int) - 128 else -1
theorem str_bt {s : ByteArray} {l : List UInt8} (hs : s.data.toList = l) {k : Nat} (hk : k < s.size) : (s[k]'hk).toNat = bt l k := str_at hs hk
theorem rmore_walk (s : ByteArray) (l : List UInt8) (hs : s.data.toList = l) (i : Nat) (hi : i < 10) (w : World) (hm : s.size ≤ 1000000) :
  Calls Tryz.prog 125 #[.string s, .int .i64 (i : Int)] w fun e w' => e = .returned (.int .i64 (moreI l i)) ∧ w = w' := by
 have hsz : l.length = s.size := by rw [← hs, Lib.size_eq]
 by_cases hlt : i < s.size
 ·
  obtain ⟨b, eb, hb, hb2⟩ : ∃ b : Nat, (s[i]'hlt).toNat = b ∧ Hid (bt l i = b) ∧ b < 256 := ⟨_, str_bt hs hlt, rfl, bt_lt l i⟩
  by_cases h1 : 128 ≤ b <;> by_cases h2 : b ≤ 191
  all_goals
   have hv : Hid (moreI l i = if 128 ≤ b ∧ b ≤ 191 then (b : Int) - 128 else -1) := by
    show _ = _
    rw [moreI, cont, hb.out, show decide (i < l.length) = true by simp; omega]
    by_cases h : b / 64 = 2
    ·
     rw [if_pos (by simp [h]), if_pos (by omega)]
    ·
     rw [if_neg (by simp [h]), if_neg (by omega)]
   go_enter Tryz.func125, Tryz.ntmps125
   go_wp2_with fail
   all_goals
    go_ret
    refine ⟨?_, rfl⟩
    rw [hv.out]
    first | (simp [h1, h2]; done) | omega
 ·
  have hv : Hid (moreI l i = -1) := by
   show _ = _
   rw [moreI, cont, show decide (i < l.length) = false by simp; omega]; simp
  go_enter Tryz.func125, Tryz.ntmps125
  go_wp2_with fail
  go_ret
  exact ⟨by rw [hv.out]; rfl, rfl⟩
def rfI (c a b d : Int) : Int × Int :=
 if c < 128 then (c, 1)
 else if 194 ≤ c ∧ c < 224 ∧ 0 ≤ a then ((c - 192) * 64 + a, 2)
 else if 224 ≤ c ∧ c < 240 ∧ 0 ≤ a ∧ 0 ≤ b then
  if 2048 ≤ (c - 224) * 4096 + a * 64 + b ∧ ((c - 224) * 4096 + a * 64 + b < 55296 ∨ 57343 < (c - 224) * 4096 + a * 64 + b) then ((c - 224) * 4096 + a * 64 + b, 3) else (65533, 1)
 else if 240 ≤ c ∧ c < 245 ∧ 0 ≤ a ∧ 0 ≤ b ∧ 0 ≤ d then
  if 65536 ≤ (c - 240) * 262144 + a * 4096 + b * 64 + d ∧ (c - 240) * 262144 + a * 4096 + b * 64 + d ≤ 1114111 then ((c - 240) * 262144 + a * 4096 + b * 64 + d, 4) else (65533, 1)
 else (65533, 1)
theorem moreI_le (l : List UInt8) (i : Nat) : -1 ≤ moreI l i ∧ moreI l i < 64 := by
 unfold moreI
 by_cases h : cont l i = true
 ·
  rw [if_pos h]
  simp only [cont, Bool.and_eq_true, beq_iff_eq] at h
  omega
 ·
  rw [if_neg h]; omega
theorem moreI_yes {l : List UInt8} {i : Nat} (h : cont l i = true) : moreI l i = (bt l i % 64 : Nat) := by
 unfold moreI
 rw [if_pos h]
 simp only [cont, Bool.and_eq_true, beq_iff_eq] at h
 omega
theorem moreI_no {l : List UInt8} {i : Nat} (h : ¬ cont l i = true) : moreI l i = -1 := by unfold moreI; rw [if_neg h]
theorem rfI_dc (l : List UInt8) : rfI (bt l 0) (moreI l 1) (moreI l 2) (moreI l 3) = (((dc l).1 : Int), ((dc l).2 : Int)) := by
 have h0 := bt_lt l 0
 have m1 := moreI_le l 1
 have m2 := moreI_le l 2
 have m3 := moreI_le l 3
 have t1 : bt l 1 % 64 < 64 := Nat.mod_lt _ (by decide)
 have t2 : bt l 2 % 64 < 64 := Nat.mod_lt _ (by decide)
 have t3 : bt l 3 % 64 < 64 := Nat.mod_lt _ (by decide)
 unfold rfI dc
 have e1 : moreI l 1 = if cont l 1 = true then ((bt l 1 % 64 : Nat) : Int) else -1 := by
  by_cases h : cont l 1 = true
  ·
   rw [if_pos h, moreI_yes h]
  ·
   rw [if_neg h, moreI_no h]
 have e2 : moreI l 2 = if cont l 2 = true then ((bt l 2 % 64 : Nat) : Int) else -1 := by
  by_cases h : cont l 2 = true
  ·
   rw [if_pos h, moreI_yes h]
  ·
   rw [if_neg h, moreI_no h]
 have e3 : moreI l 3 = if cont l 3 = true then ((bt l 3 % 64 : Nat) : Int) else -1 := by
  by_cases h : cont l 3 = true
  ·
   rw [if_pos h, moreI_yes h]
  ·
   rw [if_neg h, moreI_no h]
 rw [e1, e2, e3]
 clear e1 e2 e3 m1 m2 m3
 revert t1 t2 t3 h0
 generalize bt l 1 = x1
 generalize bt l 2 = x2
 generalize bt l 3 = x3
 generalize bt l 0 = x0
 generalize cont l 1 = b1
 generalize cont l 2 = b2
 generalize cont l 3 = b3
 intro h0 t1 t2 t3
 simp only [Utf8.valid, Bool.and_eq_true, Bool.or_eq_true, decide_eq_true_eq, beq_iff_eq, ge_iff_le]
 cases b1 <;> cases b2 <;> cases b3 <;> simp only [if_true, if_false, Bool.false_eq_true, and_true, and_false, if_false]
 all_goals
  repeat' split
  all_goals first | rfl | (exfalso; omega) | (refine Prod.ext ?_ ?_ <;> simp <;> omega)
end Go.Proofs.YtnhjgocdepbajaaGreat

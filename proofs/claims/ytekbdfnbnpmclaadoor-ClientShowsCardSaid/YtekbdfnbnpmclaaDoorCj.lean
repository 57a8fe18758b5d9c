/- ClientShows: who has no secret shows none; who has one shows it, and no other one's will do. Condition: the table of digits is laid. -/
import Derived.Test.YtekbdfnbnpmclaaDoorCi
set_option linter.unusedVariables false
set_option linter.unusedSimpArgs false
set_option maxRecDepth 20000
namespace Go.Proofs.YtekbdfnbnpmclaaDoor
open Go.RowKit Pc
def sgnI (c : UInt8) : Nat := if 65 ≤ c ∧ c ≤ 90 then c.toNat - 65 else if 97 ≤ c ∧ c ≤ 122 then c.toNat - 71 else if 48 ≤ c ∧ c ≤ 57 then c.toNat + 4 else if c = 45 then 62 else 63
/-- the number that a small nonce's mark tells -/
def lastI (l : List UInt8) : Nat := (sgnI (l.getD 6 0) % 16) * 16 + sgnI (l.getD 7 0) / 4
theorem key_last : ∀ i : Fin 100, lastI (K9.keyL (i.val : Int)) = i.val := by decide +kernel
theorem key_full : ∀ i : Fin 100, (K9.keyL (i.val : Int)).isEmpty = false := by decide +kernel
theorem key_inj {a b : Nat} (ha : a < 100) (hb : b < 100) (h : K9.keyL (a : Int) = K9.keyL (b : Int)) : a = b := by
  have h1 := key_last ⟨a, ha⟩
  have h2 := key_last ⟨b, hb⟩
  simp only at h1 h2
  rw [← h1, ← h2, h]
theorem key_ne {a : Nat} (ha : a < 100) : K9.keyL (a : Int) ≠ [] := by
  intro e
  have := key_full ⟨a, ha⟩
  simp only at this
  rw [e] at this
  cases this
def redA17 : List UInt8 := [104, 116, 116, 112, 115, 58, 47, 47, 97, 47, 99, 98]
def shC (n a : Nat) : Cl := ⟨[97], a, [redA17], [120], some ⟨n, 0, none⟩, 1⟩
theorem sh_ask (n a : Nat) : askL (shC n a) = if a = 0 then [] else K9.keyL (a : Int) := by
  show (if ((a : Nat) : Int) = 0 then _ else _) = _
  by_cases h : a = 0
  · rw [if_pos h, if_pos (by omega)]
  · rw [if_neg h, if_neg (by omega)]; rfl
theorem sh_yes (n a : Nat) (s : List UInt8) (h : s = askL (shC n a)) : authV (authE [shC n a] [97] s) = .tuple #[.int .i64 1, .int .i64 0] := by
  show authV (if s = askL (shC n a) then (1, 0) else (0, 9)) = _
  rw [if_pos h]; rfl
theorem sh_no (n a : Nat) (s : List UInt8) (h : s ≠ askL (shC n a)) : authV (authE [shC n a] [97] s) = .tuple #[.int .i64 0, .int .i64 9] := by
  show authV (if s = askL (shC n a) then (1, 0) else (0, 9)) = _
  rw [if_neg h]; rfl
theorem sh_other (n a : Nat) (s : List UInt8) : authV (authE [shC n a] [98] s) = .tuple #[.int .i64 0, .int .i64 9] := rfl
set_option maxHeartbeats 4000000 in
theorem shows_law (z1 z2 : Int) (w : World) (h1 : -9223372036854775808 ≤ z1 ∧ z1 ≤ 9223372036854775807) (h2 : -9223372036854775808 ≤ z2 ∧ z2 ≤ 9223372036854775807) (hd : DigOk w) :
    Calls Tryd.prog 4 #[.int .i64 z1, .int .i64 z2] w fun e w' => e = .returned (.bool true) ∧ Below w.heap.size w w' := by
  have cw1 := Lib.hid (fun W => within17_walk z1 100 W (by omega) (by omega) h1)
  have cw2 := Lib.hid (fun W => within17_walk z2 100 W (by omega) (by omega) h2)
  obtain ⟨a, ea⟩ : ∃ a : Nat, z1 % 100 = a := ⟨(z1 % 100).toNat, by have := Int.emod_nonneg z1 (show (100 : Int) ≠ 0 by omega); omega⟩
  obtain ⟨b, eb⟩ : ∃ b : Nat, z2 % 100 = b := ⟨(z2 % 100).toNat, by have := Int.emod_nonneg z2 (show (100 : Int) ≠ 0 by omega); omega⟩
  have ha : a < 100 := by have := Int.emod_lt_of_pos z1 (show (0 : Int) < 100 by omega); omega
  have hb : b < 100 := by have := Int.emod_lt_of_pos z2 (show (0 : Int) < 100 by omega); omega
  rw [ea] at cw1
  rw [eb] at cw2
  have HD := Lib.hid hd
  clear ea eb h1 h2 hd
  go_enter Tryd.func4, Tryd.ntmps4
  go_wp2_with fail
  refine (known17_walk w HD.out).mono ?_
  rintro _ w1 ⟨rfl, hb1⟩
  have HB := Lib.hid hb1
  clear hb1
  go_wp2_with fail
  refine (cw1.out w1).mono ?_
  rintro _ w2 ⟨rfl, rfl⟩
  go_wp2_with fail
  refine (cw2.out w1).mono ?_
  rintro _ w2 ⟨rfl, rfl⟩
  go_upto_region 5 with fail
  have hbx := HB.out.alloc HB.out.size (.cells #[.string ⟨#[104, 116, 116, 112, 115, 58, 47, 47, 97, 47, 99, 98]⟩] 9)
  have hkx := Blk.new w1 9 #[.string ⟨#[104, 116, 116, 112, 115, 58, 47, 47, 97, 47, 99, 98]⟩]
  have hs1 : (w1.alloc (.cells #[.string ⟨#[104, 116, 116, 112, 115, 58, 47, 47, 97, 47, 99, 98]⟩] 9)).heap.size = w1.heap.size + 1 := by simp
  generalize w1.alloc (.cells #[.string ⟨#[104, 116, 116, 112, 115, 58, 47, 47, 97, 47, 99, 98]⟩] 9) = W1 at hbx hkx hs1 ⊢
  have hby := hbx.alloc hbx.size (.cells #[.string ⟨#[97]⟩, .int .i64 a, .slice (some ⟨w1.heap.size, 0, none⟩) 1 1, .string ⟨#[120]⟩] 30)
  have hky := Blk.new W1 30 #[.string ⟨#[97]⟩, .int .i64 a, .slice (some ⟨w1.heap.size, 0, none⟩) 1 1, .string ⟨#[120]⟩]
  have hkz := hkx.alloc (.cells #[.string ⟨#[97]⟩, .int .i64 a, .slice (some ⟨w1.heap.size, 0, none⟩) 1 1, .string ⟨#[120]⟩] 30)
  generalize W1.alloc (.cells #[.string ⟨#[97]⟩, .int .i64 a, .slice (some ⟨w1.heap.size, 0, none⟩) 1 1, .string ⟨#[120]⟩] 30) = W2 at hby hky hkz ⊢
  have hcl : ClsAt W2 (some ⟨w1.heap.size + 1, 0, none⟩) 1 [shC w1.heap.size a] := by
    rw [hs1] at hky
    exact clsAt_one (f := shC w1.heap.size a) hky (strsAt_one (p := redA17) hkz)
  have HC := Lib.hid hcl
  replace HB := Lib.hid hby
  clear hbx hkx hs1 hby hky hkz hcl cw1 cw2 HD
  have ca := Lib.hid (fun W q s h => auth_walk [shC w1.heap.size a] q s (some ⟨w1.heap.size + 1, 0, none⟩) 1 W h (by show (1 : Nat) ≤ 1000000; omega))
  have cka := Lib.hid (fun W => K9.key_walk (a : Int) W)
  have ckb := Lib.hid (fun W => K9.key_walk (b : Int) W)
  generalize hka : K9.keyL (a : Int) = ka at cka
  generalize hkb : K9.keyL (b : Int) = kb at ckb
  have H0 := Lib.hid (sh_ask w1.heap.size a)
  have H1 := Lib.hid (key_ne hb)
  have H2 : Hid (ka = kb → a = b) := fun e => key_inj ha hb (by rw [hka, hkb, e])
  have H3 : Hid (a = b → ka = kb) := fun e => by rw [← hka, ← hkb, e]
  rw [hka] at H0
  rw [hkb] at H1
  have H4 : Hid (ka ≠ []) := by show ka ≠ []; rw [← hka]; exact key_ne ha
  clear hka hkb
  by_cases hz : a = 0
  · have e1 := Lib.hid (sh_no w1.heap.size a kb (by rw [H0.out, if_pos hz]; exact H1.out))
    have e2 := Lib.hid (sh_yes w1.heap.size a [] (by rw [H0.out, if_pos hz]))
    have g1 : decide ((0 : Int) < (a : Int)) = false := by simp; omega
    have g1b : decide (0 < a) = false := by simp; omega
    have g2 : ((a : Int) == 0) = true := by rw [beq_iff_eq]; omega
    by_cases hab : a = b
    · have g3 : ((a : Int) == (b : Int)) = true := by rw [beq_iff_eq]; omega
      clear hab hz
      go_wp2_with fail
      refine (ckb.out _).mono ?_
      rintro _ w3 ⟨rfl, hbn⟩
      replace HB := Lib.hid (below_next HB.out hbn)
      replace HC := Lib.hid (HC.out.below hbn)
      clear hbn
      go_wp2_with fail
      refine (ca.out _ [97] kb HC.out).mono ?_
      rintro _ w4 ⟨rfl, hbn⟩
      replace HB := Lib.hid (below_next HB.out hbn)
      replace HC := Lib.hid (HC.out.below hbn)
      clear hbn
      rw [e1.out]
      go_wp2_with fail
      refine (ca.out _ [97] [] HC.out).mono ?_
      rintro _ w5 ⟨rfl, hbn⟩
      replace HB := Lib.hid (below_next HB.out hbn)
      replace HC := Lib.hid (HC.out.below hbn)
      clear hbn
      rw [e2.out]
      go_wp2_with fail
      refine (cka.out _).mono ?_
      rintro _ w6 ⟨rfl, hbn⟩
      replace HB := Lib.hid (below_next HB.out hbn)
      replace HC := Lib.hid (HC.out.below hbn)
      clear hbn
      go_wp2_with fail
      refine (ca.out _ [98] ka HC.out).mono ?_
      rintro _ w7 ⟨rfl, hbn⟩
      replace HB := Lib.hid (below_next HB.out hbn)
      replace HC := Lib.hid (HC.out.below hbn)
      clear hbn
      rw [sh_other]
      go_wp2_with fail
      go_ret
      exact ⟨rfl, HB.out⟩
    · have g3 : ((a : Int) == (b : Int)) = false := by rw [beq_eq_false_iff_ne]; omega
      clear hab hz
      go_wp2_with fail
      refine (ckb.out _).mono ?_
      rintro _ w3 ⟨rfl, hbn⟩
      replace HB := Lib.hid (below_next HB.out hbn)
      replace HC := Lib.hid (HC.out.below hbn)
      clear hbn
      go_wp2_with fail
      refine (ca.out _ [97] kb HC.out).mono ?_
      rintro _ w4 ⟨rfl, hbn⟩
      replace HB := Lib.hid (below_next HB.out hbn)
      replace HC := Lib.hid (HC.out.below hbn)
      clear hbn
      rw [e1.out]
      go_wp2_with fail
      refine (ca.out _ [97] [] HC.out).mono ?_
      rintro _ w5 ⟨rfl, hbn⟩
      replace HB := Lib.hid (below_next HB.out hbn)
      replace HC := Lib.hid (HC.out.below hbn)
      clear hbn
      rw [e2.out]
      go_wp2_with fail
      refine (cka.out _).mono ?_
      rintro _ w6 ⟨rfl, hbn⟩
      replace HB := Lib.hid (below_next HB.out hbn)
      replace HC := Lib.hid (HC.out.below hbn)
      clear hbn
      go_wp2_with fail
      refine (ca.out _ [98] ka HC.out).mono ?_
      rintro _ w7 ⟨rfl, hbn⟩
      replace HB := Lib.hid (below_next HB.out hbn)
      replace HC := Lib.hid (HC.out.below hbn)
      clear hbn
      rw [sh_other]
      go_wp2_with fail
      go_ret
      exact ⟨rfl, HB.out⟩
  · have e2 := Lib.hid (sh_no w1.heap.size a [] (by rw [H0.out, if_neg hz]; exact fun e => H4.out e.symm))
    have g1 : decide ((0 : Int) < (a : Int)) = true := by simp; omega
    have g1b : decide (0 < a) = true := by simp; omega
    have g2 : ((a : Int) == 0) = false := by rw [beq_eq_false_iff_ne]; omega
    by_cases hab : a = b
    · have e1 := Lib.hid (sh_yes w1.heap.size a kb (by rw [H0.out, if_neg hz]; exact (H3.out hab).symm))
      have g3 : ((a : Int) == (b : Int)) = true := by rw [beq_iff_eq]; omega
      clear hab hz
      go_wp2_with fail
      refine (ckb.out _).mono ?_
      rintro _ w3 ⟨rfl, hbn⟩
      replace HB := Lib.hid (below_next HB.out hbn)
      replace HC := Lib.hid (HC.out.below hbn)
      clear hbn
      go_wp2_with fail
      refine (ca.out _ [97] kb HC.out).mono ?_
      rintro _ w4 ⟨rfl, hbn⟩
      replace HB := Lib.hid (below_next HB.out hbn)
      replace HC := Lib.hid (HC.out.below hbn)
      clear hbn
      rw [e1.out]
      go_wp2_with fail
      refine (ca.out _ [97] [] HC.out).mono ?_
      rintro _ w5 ⟨rfl, hbn⟩
      replace HB := Lib.hid (below_next HB.out hbn)
      replace HC := Lib.hid (HC.out.below hbn)
      clear hbn
      rw [e2.out]
      go_wp2_with fail
      refine (cka.out _).mono ?_
      rintro _ w6 ⟨rfl, hbn⟩
      replace HB := Lib.hid (below_next HB.out hbn)
      replace HC := Lib.hid (HC.out.below hbn)
      clear hbn
      go_wp2_with fail
      refine (ca.out _ [98] ka HC.out).mono ?_
      rintro _ w7 ⟨rfl, hbn⟩
      replace HB := Lib.hid (below_next HB.out hbn)
      replace HC := Lib.hid (HC.out.below hbn)
      clear hbn
      rw [sh_other]
      go_wp2_with fail
      go_ret
      exact ⟨rfl, HB.out⟩
    · have e1 := Lib.hid (sh_no w1.heap.size a kb (by rw [H0.out, if_neg hz]; exact fun e => hab (H2.out e.symm)))
      have g3 : ((a : Int) == (b : Int)) = false := by rw [beq_eq_false_iff_ne]; omega
      clear hab hz
      go_wp2_with fail
      refine (ckb.out _).mono ?_
      rintro _ w3 ⟨rfl, hbn⟩
      replace HB := Lib.hid (below_next HB.out hbn)
      replace HC := Lib.hid (HC.out.below hbn)
      clear hbn
      go_wp2_with fail
      refine (ca.out _ [97] kb HC.out).mono ?_
      rintro _ w4 ⟨rfl, hbn⟩
      replace HB := Lib.hid (below_next HB.out hbn)
      replace HC := Lib.hid (HC.out.below hbn)
      clear hbn
      rw [e1.out]
      go_wp2_with fail
      refine (ca.out _ [97] [] HC.out).mono ?_
      rintro _ w5 ⟨rfl, hbn⟩
      replace HB := Lib.hid (below_next HB.out hbn)
      replace HC := Lib.hid (HC.out.below hbn)
      clear hbn
      rw [e2.out]
      go_wp2_with fail
      refine (cka.out _).mono ?_
      rintro _ w6 ⟨rfl, hbn⟩
      replace HB := Lib.hid (below_next HB.out hbn)
      replace HC := Lib.hid (HC.out.below hbn)
      clear hbn
      go_wp2_with fail
      refine (ca.out _ [98] ka HC.out).mono ?_
      rintro _ w7 ⟨rfl, hbn⟩
      replace HB := Lib.hid (below_next HB.out hbn)
      replace HC := Lib.hid (HC.out.below hbn)
      clear hbn
      rw [sh_other]
      go_wp2_with fail
      go_ret
      exact ⟨rfl, HB.out⟩
end Go.Proofs.YtekbdfnbnpmclaaDoor

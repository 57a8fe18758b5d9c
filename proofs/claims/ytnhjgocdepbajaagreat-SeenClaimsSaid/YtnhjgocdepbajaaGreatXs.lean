/- Scopes: both sides; scopes off the tape. No condition of its own. -/
import Derived.Test.YtnhjgocdepbajaaGreatA2
import Derived.Test.YtnhjgocdepbajaaGreatA1
set_option linter.unusedVariables false
set_option linter.unusedSimpArgs false
set_option maxRecDepth 20000
set_option maxHeartbeats 8000000
namespace Go.Proofs.YtnhjgocdepbajaaGreat
namespace S16
section
open Go.RowKit
def wordB (l : List UInt8) : Bool := decide (1 ≤ l.length) && decide (l.length ≤ 128) && (l.all fun b => plainB b.toNat)
def letterB (c : Nat) : Bool := decide (65 ≤ c) && decide (c ≤ 90) || decide (97 ≤ c) && decide (c ≤ 122)
theorem rletter_walk (c : Nat) (w : World) : Calls Tryz.prog 127 #[.int .u8 (c : Int)] w fun e w' => e = .returned (.bool (letterB c)) ∧ w = w' := by
 have e : Hid (letterB c = (decide (65 ≤ c) && decide (c ≤ 90) || decide (97 ≤ c) && decide (c ≤ 122))) := rfl
 by_cases h1 : 65 ≤ c <;> by_cases h2 : c ≤ 90 <;> by_cases h3 : 97 ≤ c <;> by_cases h4 : c ≤ 122
 all_goals
  go_enter Tryz.func127, Tryz.ntmps127
  go_wp2_with fail
  all_goals
   go_ret
   refine ⟨?_, rfl⟩
   rw [e.out]
   first | (simp [h1, h2, h3, h4]; done) | (simp [h1, h2, h3, h4]; omega)
theorem rdigit_walk (c : Nat) (w : World) : Calls Tryz.prog 128 #[.int .u8 (c : Int)] w fun e w' => e = .returned (.bool (digitB c)) ∧ w = w' := by
 have e : Hid (digitB c = (decide (48 ≤ c) && decide (c ≤ 57))) := rfl
 by_cases h1 : 48 ≤ c <;> by_cases h2 : c ≤ 57
 all_goals
  go_enter Tryz.func128, Tryz.ntmps128
  go_wp2_with fail
  all_goals
   go_ret
   refine ⟨?_, rfl⟩
   rw [e.out]
   first | (simp [h1, h2]; done) | (simp [h1, h2]; omega)
theorem any_yes {l : List UInt8} {p : Nat → Bool} {k : Nat} (hk : k < l.length) (h : p (l.getD k 0).toNat = true) : (l.any fun b => p b.toNat) = true := by
 rw [List.any_eq_true]
 exact ⟨l[k], List.getElem_mem hk, by rw [List.getD_eq_getElem?_getD, List.getElem?_eq_getElem hk] at h; simpa using h⟩
theorem any_no {l : List UInt8} {p : Nat → Bool} (h : ∀ j, j < l.length → p (l.getD j 0).toNat = false) : (l.any fun b => p b.toNat) = false := by
 rw [List.any_eq_false]
 intro x hx
 obtain ⟨j, hj, he⟩ := List.getElem_of_mem hx
 have := h j hj
 rw [List.getD_eq_getElem?_getD, List.getElem?_eq_getElem hj, Option.getD_some, he] at this
 rw [this]; simp
theorem upto_one {l : List UInt8} {p : Nat → Bool} {t : Bool} {k b : Nat} (h : ∀ j, j < k → p (l.getD j 0).toNat = t) (hb : (l.getD k 0).toNat = b) (hp : p b = t) : ∀ j, j < k + 1 → p (l.getD j 0).toNat = t := by
 intro j hj
 rcases Nat.lt_or_ge j k with h' | h'
 ·
  exact h j h'
 ·
  rw [show j = k by omega, hb]; exact hp
theorem rin_walk (c : Nat) (s : ByteArray) (l : List UInt8) (hs : s.data.toList = l) (w : World) (hm : s.size ≤ 1000000) :
  Calls Tryz.prog 129 #[.int .u8 (c : Int), .string s] w fun e w' => e = .returned (.bool (l.any fun b => b.toNat == c)) ∧ w = w' := by
 have hsz : l.length = s.size := by rw [← hs, Lib.size_eq]
 go_enter Tryz.func129, Tryz.ntmps129
 go_wp2_with fail
 go_loopw [5] (fun nv wr => ∃ k : Nat, k ≤ s.size ∧ nv = .int .i64 k ∧ Hid (∀ j, j < k → ((l.getD j 0).toNat == c) = false) ∧ w = wr) (fun nv _ => s.size - (intOf nv).toNat)
 case atStart => exact ⟨0, by omega, rfl, fun j hj => by omega, rfl⟩
 case round =>
  obtain ⟨k, hk, rfl, hp, rfl⟩ := hrel
  by_cases hlt : k < s.size
  ·
   obtain ⟨b, eb, hb, hb2⟩ : ∃ b : Nat, (s[k]'hlt).toNat = b ∧ Hid ((l.getD k 0).toNat = b) ∧ b < 256 := ⟨_, str_at hs hlt, rfl, (l.getD k 0).toNat_lt⟩
   cases hpk : (b == c)
   ·
    have hq : ((b : Int) == (c : Int)) = false := by rw [beq_eq_false_iff_ne] at hpk ⊢; omega
    have HN := Lib.hid (upto_one (p := (· == c)) hp.out hb.out hpk)
    clear hpk
    go_wp2_with fail
    exact ⟨⟨k + 1, by omega, by go_num, HN, trivial⟩, by simp [intOf]; omega⟩
   ·
    have hq : ((b : Int) == (c : Int)) = true := by rw [beq_iff_eq] at hpk ⊢; omega
    have hv : Hid ((l.any fun b => b.toNat == c) = true) := any_yes (k := k) (p := (· == c)) (by omega) (by rw [hb.out]; exact hpk)
    clear hpk
    go_wp2_with fail
    go_ret
    exact ⟨by rw [hv.out]; rfl, rfl⟩
  ·
   have hv : Hid ((l.any fun b => b.toNat == c) = false) := any_no (p := (· == c)) (fun j hj => hp.out j (by omega))
   go_wp2_with fail
   go_ret
   exact ⟨by rw [hv.out]; rfl, rfl⟩
def rplainB (c : Nat) : Bool := letterB c || digitB c || ([45, 46, 95, 126] : List UInt8).any fun b => b.toNat == c
theorem rplain_eq : ∀ c : Fin 256, rplainB c.val = plainB c.val := by decide +kernel
theorem rplain_walk (c : Nat) (w : World) : Calls Tryz.prog 121 #[.int .u8 (c : Int)] w fun e w' => e = .returned (.bool (rplainB c)) ∧ w = w' := by
 have e : Hid (rplainB c = (letterB c || digitB c || ([45, 46, 95, 126] : List UInt8).any fun b => b.toNat == c)) := rfl
 have c1 := Lib.hid (rletter_walk c)
 have c2 := Lib.hid (rdigit_walk c)
 have c3 := Lib.hid (fun w => rin_walk c ⟨#[45, 46, 95, 126]⟩ [45, 46, 95, 126] rfl w (by decide))
 cases h1 : letterB c <;> rw [h1] at c1 e
 ·
  cases h2 : digitB c <;> rw [h2] at c2 e
  ·
   cases h3 : (([45, 46, 95, 126] : List UInt8).any fun b => b.toNat == c) <;> rw [h3] at c3 e <;> clear h3
   all_goals
    go_enter Tryz.func121, Tryz.ntmps121
    go_wp2_with fail
    refine (c1.out _).mono ?_
    rintro _ w1 ⟨rfl, rfl⟩
    go_wp2_with fail
    refine (c2.out _).mono ?_
    rintro _ w1 ⟨rfl, rfl⟩
    go_wp2_with fail
    refine (c3.out _).mono ?_
    rintro _ w1 ⟨rfl, rfl⟩
    go_wp2_with fail
    go_ret
    exact ⟨by rw [e.out]; rfl, rfl⟩
  ·
   go_enter Tryz.func121, Tryz.ntmps121
   go_wp2_with fail
   refine (c1.out _).mono ?_
   rintro _ w1 ⟨rfl, rfl⟩
   go_wp2_with fail
   refine (c2.out _).mono ?_
   rintro _ w1 ⟨rfl, rfl⟩
   go_wp2_with fail
   go_ret
   exact ⟨by rw [e.out]; simp, rfl⟩
 ·
  go_enter Tryz.func121, Tryz.ntmps121
  go_wp2_with fail
  refine (c1.out _).mono ?_
  rintro _ w1 ⟨rfl, rfl⟩
  go_wp2_with fail
  go_ret
  exact ⟨by rw [e.out]; simp, rfl⟩
theorem rword_walk (s : ByteArray) (l : List UInt8) (hs : s.data.toList = l) (w : World) (hm : s.size ≤ 1000000) :
  Calls Tryz.prog 107 #[.string s] w fun e w' => e = .returned (.bool (wordB l)) ∧ w = w' := by
 have hsz : l.length = s.size := by rw [← hs, Lib.size_eq]
 have e : Hid (wordB l = (decide (1 ≤ l.length) && decide (l.length ≤ 128) && (l.all fun b => plainB b.toNat))) := rfl
 go_enter Tryz.func107, Tryz.ntmps107
 go_wp2_with fail
 go_loopw [3] (fun nv wr => ∃ k : Nat, k ≤ s.size ∧ nv = .int .i64 k ∧ Hid (∀ j, j < k → plainB (l.getD j 0).toNat = true) ∧ w = wr) (fun nv _ => s.size - (intOf nv).toNat)
 case atStart => exact ⟨0, by omega, rfl, fun j hj => by omega, rfl⟩
 case round =>
  obtain ⟨k, hk, rfl, hp, rfl⟩ := hrel
  by_cases hlt : k < s.size
  ·
   obtain ⟨b, eb, hb, hb2⟩ : ∃ b : Nat, (s[k]'hlt).toNat = b ∧ Hid ((l.getD k 0).toNat = b) ∧ b < 256 := ⟨_, str_at hs hlt, rfl, (l.getD k 0).toNat_lt⟩
   have cF := Lib.hid (rplain_walk b)
   rw [rplain_eq ⟨b, hb2⟩] at cF
   cases hpk : plainB b <;> simp only [hpk] at cF
   ·
    have hv : Hid ((l.all fun b => plainB b.toNat) = false) := all_no (k := k) (by omega) (by rw [hb.out]; exact hpk)
    clear hpk
    go_wp2_with fail
    refine (cF.out _).mono ?_
    rintro _ w1 ⟨rfl, rfl⟩
    go_wp2_with fail
    go_ret
    exact ⟨by rw [e.out, hv.out, Bool.and_false]; rfl, rfl⟩
   ·
    have HN := Lib.hid (upto_one (p := plainB) hp.out hb.out hpk)
    clear hpk
    go_wp2_with fail
    refine (cF.out _).mono ?_
    rintro _ w1 ⟨rfl, rfl⟩
    go_wp2_with fail
    exact ⟨⟨k + 1, by omega, by go_num, HN, trivial⟩, by simp [intOf]; omega⟩
  ·
   have hv : Hid ((l.all fun b => plainB b.toNat) = true) := all_yes (fun j hj => hp.out j (by omega))
   by_cases h1 : 1 ≤ s.size <;> by_cases h2 : s.size ≤ 128
   all_goals
    go_wp2_with fail
    all_goals
     go_ret
     refine ⟨?_, rfl⟩
     rw [e.out, hv.out]
     first | (simp [hsz, h1, h2]; done) | (simp [hsz, h1, h2]; omega)
end
section
open Go.RowKit
def goE : List (List UInt8) → List (List UInt8) → Nat
 | _, [] => 0
 | seen, p :: ps => if wordB p = false then 3 else if seen.contains p then 6 else goE (seen ++ [p]) ps
def scopeE (ps : List (List UInt8)) : Nat := if ps.length ≤ 8 then goE [] ps else 7
theorem goE_at (ps : List (List UInt8)) (k : Nat) (p : List UInt8) (h : ps[k]? = some p) :
  goE (ps.take k) (ps.drop k) = if wordB p = false then 3 else if (ps.take k).contains p then 6 else goE (ps.take (k + 1)) (ps.drop (k + 1)) := by
 have hk := (List.getElem?_eq_some_iff.1 h).1
 have hp : ps[k] = p := (List.getElem?_eq_some_iff.1 h).2
 rw [List.drop_eq_getElem_cons hk, hp, goE, List.take_add_one, h]
 rfl
theorem goE_end (ps : List (List UInt8)) : goE (ps.take ps.length) (ps.drop ps.length) = 0 := by rw [List.drop_length]; unfold goE; rfl
theorem splitC_mem (c : UInt8) : ∀ (l : List UInt8) (p : List UInt8), p ∈ splitC c l → p.length ≤ l.length
 | [], p, h => by simp [splitC] at h; subst h; simp
 | x :: l, p, h => by
  have ih := splitC_mem c l
  rw [splitC] at h
  split at h
  ·
   rcases List.mem_cons.1 h with rfl | h
   ·
    simp
   ·
    have := ih p h; simp; omega
  ·
   split at h
   ·
    simp at h; subst h; simp
   ·
    rename_i q qs hq
    rcases List.mem_cons.1 h with rfl | h
    ·
     have := ih q (by rw [hq]; simp); simp; omega
    ·
     have := ih p (by rw [hq]; simp [h]); simp; omega
def RowS (w : World) (g : Nat) (ps : List (List UInt8)) : Prop := g < w.heap.size ∧ ∀ j p, ps[j]? = some p → w.cell? ⟨g, j, none⟩ = some (.string ⟨p.toArray⟩)
section
variable {w w' : World} {g : Nat} {ps : List (List UInt8)}
theorem RowS.below (h : RowS w g ps) {B : Nat} (hb : Below B w w') (hg : g < B) : RowS w' g ps :=
 ⟨by have := h.1; have := hb.size; omega, fun j p hp => (hb.cell hg).trans (h.2 j p hp)⟩
theorem RowS.drewN (h : RowS w g ps) (q : Nat) : RowS (w.drewN q) g ps := h
end
def ParseR (ps : List (List UInt8)) (w : World) (e : Ending) (w' : World) : Prop :=
 Below w.heap.size w w' ∧ ((scopeE ps = 0 ∧ ∃ g c, e = .returned (.tuple #[.slice (some ⟨g, 0, none⟩) ps.length c, .int .i64 0]) ∧ w.heap.size ≤ g ∧ ps.length ≤ c ∧ c ≤ 9223372036854775807 ∧ RowS w' g ps) ∨ (scopeE ps ≠ 0 ∧ e = .returned (.tuple #[.slice none 0 0, .int .i64 (scopeE ps)])))
theorem eq_str (p q : List UInt8) (x : ByteArray) (hx : x.data.toList = q) : (p == x.toList) = decide (p = q) := by
 rw [ByteArray.toList_eq, hx, Bool.eq_iff_iff]; simp
theorem in_walk (g n c : Nat) (ps : List (List UInt8)) (q : List UInt8) (x : ByteArray) (hx : x.data.toList = q) (w : World) (hr : RowS w g ps) (hn : n ≤ ps.length) (hb : n ≤ 1000001) :
  Calls Tryz.prog 108 #[.slice (some ⟨g, 0, none⟩) n c, .string x] w fun e w' => e = .returned (.bool ((ps.take n).contains q)) ∧ w = w' := by
 go_enter Tryz.func108, Tryz.ntmps108
 go_wp2_with fail
 go_loopw [5] (fun iv wr => ∃ k : Nat, k ≤ n ∧ iv = .int .i64 k ∧ Hid (∀ j p, j < k → ps[j]? = some p → p ≠ q) ∧ w = wr) (fun iv _ => n - (intOf iv).toNat)
 case atStart => exact ⟨0, by omega, rfl, fun j p hj => by omega, rfl⟩
 case round =>
  obtain ⟨k, hk, rfl, hp, rfl⟩ := hrel
  by_cases hlt : k < n
  ·
   obtain ⟨p, hpk⟩ : ∃ p, ps[k]? = some p := ⟨_, List.getElem?_eq_getElem (by omega)⟩
   have hc := hr.2 k p hpk
   have hcmp := eq_str p q x hx
   by_cases he : p = q
   ·
    have hv : Hid ((ps.take n).contains q = true) := by
     show _ = _
     rw [List.contains_iff_mem, ← he]
     exact List.mem_of_getElem? (i := k) (by rw [List.getElem?_take, if_pos hlt, hpk])
    have HK := Lib.hid hpk
    clear hpk
    rw [decide_eq_true he] at hcmp
    clear he
    go_wp2_with fail
    go_ret
    exact ⟨by rw [hv.out]; rfl, rfl⟩
   ·
    rw [decide_eq_false he] at hcmp
    have HN : Hid (∀ j p, j < k + 1 → ps[j]? = some p → p ≠ q) := fun j p' hj hp' => by
     rcases Nat.lt_succ_iff_lt_or_eq.1 hj with h | rfl
     ·
      exact hp.out j p' h hp'
     ·
      rw [hpk] at hp'; injection hp' with hp'; subst hp'; exact he
    have HK := Lib.hid hpk
    clear hpk he
    go_wp2_with fail
    exact ⟨⟨k + 1, by omega, by go_num, HN, trivial⟩, by simp [intOf]; omega⟩
  ·
   have hv : Hid ((ps.take n).contains q = false) := by
    show _ = _
    rw [Bool.eq_false_iff, ne_eq, List.contains_iff_mem, List.mem_iff_getElem?]
    rintro ⟨j, hj⟩
    rw [List.getElem?_take] at hj
    split at hj
    ·
     exact hp.out j q (by omega) hj rfl
    ·
     simp at hj
   go_wp2_with fail
   go_ret
   exact ⟨by rw [hv.out]; rfl, rfl⟩
end
section
open Go.RowKit
theorem rparse_walk (s : ByteArray) (l : List UInt8) (hs : s.data.toList = l) (w : World) (hm : s.size ≤ 1000000) :
  Calls Tryz.prog 81 #[.string s] w (ParseR (splitC 32 l) w) := by
 have cs := Lib.hid (parts_walk s l hs 32 w hm)
 have hsz : l.length = s.size := by rw [← hs, Lib.size_eq]
 have hmem := Lib.hid (splitC_mem 32 l)
 have hlen : (splitC 32 l).length ≤ s.size + 1 := by
  have := splitC_len 32 l
  have : l.count 32 ≤ l.length := List.count_le_length
  omega
 have hne : 0 < (splitC 32 l).length := by have := splitC_len 32 l; omega
 obtain ⟨ps, hps⟩ : ∃ ps, splitC 32 l = ps := ⟨_, rfl⟩
 rw [hps] at cs hmem hlen hne ⊢
 clear hps
 go_enter Tryz.func81, Tryz.ntmps81
 go_wp2_with fail
 refine cs.out.mono ?_
 rintro _ w1 ⟨v, rfl, hown, hbel⟩
 rcases hown.2 with ⟨_, h0⟩ | ⟨g, c, cur, rfl, hgl, hcur, hnc, hcm, _, _⟩
 ·
  omega
 have hglt : g < w1.heap.size := by
  rcases Nat.lt_or_ge g w1.heap.size with h | h
  ·
   exact h
  ·
   rw [Array.getElem?_eq_none h] at hcur; cases hcur
 have hR := Lib.hid (show RowS w1 g ps from ⟨hglt, fun j p hp => by
  have := hown.cells (g := g) rfl j (strV p) (by simp [strVs, hp])
  have hadd : (⟨g, 0, none⟩ : Addr).add j = ⟨g, j, none⟩ := by unfold Addr.add; split <;> simp_all
  rw [hadd] at this
  exact this⟩)
 have HB := Lib.hid hbel
 have hsz1 := hbel.size
 have hcm2 : c ≤ 9223372036854775807 := by unfold maxLen at hcm; omega
 clear hown hcur hbel hcm
 by_cases h8 : ps.length ≤ 8
 ·
  have hE : Hid (scopeE ps = goE [] ps) := if_pos h8
  go_wp2_with fail
  go_loopw [5] (fun iv wr => ∃ k : Nat, k ≤ ps.length ∧ iv = .int .i64 k ∧ Hid (goE (ps.take k) (ps.drop k) = scopeE ps) ∧ Hid (RowS wr g ps) ∧ Hid (Below w.heap.size w wr)) (fun iv _ => ps.length - (intOf iv).toNat)
  case atStart => exact ⟨0, by omega, rfl, hE.out.symm, hR, HB⟩
  case round =>
   clear hR HB
   obtain ⟨k, hk, rfl, hp, hR, HB⟩ := hrel
   by_cases hlt : k < ps.length
   ·
    obtain ⟨p, hpk⟩ : ∃ p, ps[k]? = some p := ⟨_, List.getElem?_eq_getElem (by omega)⟩
    have hc := hR.out.2 k p hpk
    have hpl := hmem.out p (List.mem_of_getElem? hpk)
    have hst := Lib.hid (goE_at ps k p hpk)
    have cw := Lib.hid (rword_walk ⟨p.toArray⟩ p (by simp) wr (by rw [size_mks]; omega))
    have cc := Lib.hid (fun q => in_walk g k c ps p ⟨p.toArray⟩ (by simp) (wr.drewN q) hR.out (by omega) (by omega))
    clear hpk hpl
    cases hw : wordB p
    ·
     rw [hw] at cw
     have hv : Hid (scopeE ps = 3) := by show _ = _; rw [← hp.out, hst.out, hw]; rfl
     go_wp2_with fail
     refine (cw.out).mono ?_
     rintro _ w1 ⟨rfl, rfl⟩
     go_wp2_with fail
     go_ret2
     exact ⟨HB.out, Or.inr ⟨by rw [hv.out]; decide, by rw [hv.out]; rfl⟩⟩
    ·
     rw [hw] at cw
     go_wp2_with fail
     refine (cw.out).mono ?_
     rintro _ w1 ⟨rfl, rfl⟩
     go_wp2_with fail
     have hi1 : (k : Int) < (ps.length : Int) := by omega
     have hi2 : (k : Int) ≤ (c : Int) := by omega
     cases hin : (ps.take k).contains p
     ·
      rw [hin] at cc
      have hv : Hid (goE (ps.take (k + 1)) (ps.drop (k + 1)) = scopeE ps) := by show _ = _; rw [← hp.out, hst.out, hw, hin]; rfl
      go_quiet ((go_at_call 108; refine (cc.out _).mono ?_; rintro e w9 ⟨rfl, rfl⟩; exact ⟨rfl, _, rfl⟩))
      go_wp2_with fail
      exact ⟨⟨k + 1, by omega, by go_num, hv, hR, below_drewN HB.out _⟩, by simp [intOf]; omega⟩
     ·
      rw [hin] at cc
      have hv : Hid (scopeE ps = 6) := by show _ = _; rw [← hp.out, hst.out, hw, hin]; rfl
      go_quiet ((go_at_call 108; refine (cc.out _).mono ?_; rintro e w9 ⟨rfl, rfl⟩; exact ⟨rfl, _, rfl⟩))
      go_wp2_with fail
      go_ret2
      exact ⟨below_drewN HB.out _, Or.inr ⟨by rw [hv.out]; decide, by rw [hv.out]; rfl⟩⟩
   ·
    obtain rfl : k = ps.length := by omega
    have hv : Hid (scopeE ps = 0) := by show _ = _; rw [← hp.out]; exact goE_end ps
    go_wp2_with fail
    go_ret2
    exact ⟨HB.out, Or.inl ⟨hv.out, g, _, rfl, hgl, hnc, hcm2, hR.out⟩⟩
 ·
  have hv : Hid (scopeE ps = 7) := if_neg h8
  go_wp2_with fail
  go_ret2
  exact ⟨HB.out, Or.inr ⟨by rw [hv.out]; decide, by rw [hv.out]; rfl⟩⟩
end
section
open Go.RowKit
theorem below_next {w0 w1 w2 : World} (h : Below w0.heap.size w0 w1) (k : Below w1.heap.size w1 w2) : Below w0.heap.size w0 w2 := h.trans (k.mono h.size)
def okB (ps : List (List UInt8)) : Bool := decide (scopeE ps = 0)
def hasB (ps : List (List UInt8)) (q : List UInt8) : Bool := okB ps && ps.contains q
def withinB (ps qs : List (List UInt8)) : Bool := okB ps && (okB qs && ps.all fun p => qs.contains p)
theorem ok_len {ps : List (List UInt8)} (h : scopeE ps = 0) : ps.length ≤ 8 := by
 unfold scopeE at h
 split at h
 ·
  assumption
 ·
  simp at h
theorem rhas_walk (s : ByteArray) (l : List UInt8) (hs : s.data.toList = l) (hm : s.size ≤ 1000000) (x : ByteArray) (q : List UInt8) (hx : x.data.toList = q) (w : World) :
  Calls Tryz.prog 82 #[.string s, .string x] w fun e w' => e = .returned (.bool (hasB (splitC 32 l) q)) ∧ Below w.heap.size w w' := by
 have cp := Lib.hid (rparse_walk s l hs w hm)
 obtain ⟨ps, hps⟩ : ∃ ps, splitC 32 l = ps := ⟨_, rfl⟩
 rw [hps] at cp ⊢
 clear hps
 go_enter Tryz.func82, Tryz.ntmps82
 go_wp2_with fail
 refine cp.out.mono ?_
 rintro _ w1 ⟨hb, ⟨h0, g, c, rfl, hg, hc1, hc2, hr⟩ | ⟨h0, rfl⟩⟩
 ·
  have HB := Lib.hid hb
  have hl := ok_len h0
  have cc0 := Lib.hid (in_walk g ps.length c ps q x hx w1 hr (Nat.le_refl _) (by omega))
  have hv : hasB ps q = ps.contains q := by rw [hasB, okB, decide_eq_true h0, Bool.true_and]
  rw [List.take_length] at cc0
  obtain ⟨bb, hbb⟩ : ∃ bb, ps.contains q = bb := ⟨_, rfl⟩
  rw [hbb] at cc0 hv
  have HV := Lib.hid hv
  clear hb hr h0 hbb hv
  go_wp2_with fail
  refine (cc0.out).mono ?_
  rintro _ w1 ⟨rfl, rfl⟩
  go_wp2_with fail
  go_ret
  exact ⟨by rw [HV.out]; rfl, HB.out⟩
 ·
  have HB := Lib.hid hb
  have hne : Hid (hasB ps q = false) := by show _ = _; rw [hasB, okB, decide_eq_false h0, Bool.false_and]
  have hk : (((scopeE ps : Nat) : Int) == 0) = false := by simpa using h0
  clear hb h0
  go_wp2_with fail
  go_ret
  exact ⟨by rw [hne.out]; rfl, HB.out⟩
theorem within_no {ps qs : List (List UInt8)} (h : scopeE ps ≠ 0 ∨ scopeE qs ≠ 0) : withinB ps qs = false := by
 unfold withinB okB
 rcases h with h | h <;> simp [h]
theorem within_not {ps qs : List (List UInt8)} {p : List UInt8} (hp : p ∈ ps) (h : hasB qs p = false) : withinB ps qs = false := by
 rw [Bool.eq_false_iff]
 intro hw
 unfold withinB hasB at *
 simp only [Bool.and_eq_true, List.all_eq_true, Bool.and_eq_false_iff] at h hw
 obtain ⟨_, h2, h3⟩ := hw
 have := h3 p hp
 rcases h with h | h
 ·
  rw [h] at h2; cases h2
 ·
  rw [h] at this; cases this
theorem within_yes {ps qs : List (List UInt8)} (h1 : scopeE ps = 0) (h2 : scopeE qs = 0) (h : ∀ j p, j < ps.length → ps[j]? = some p → hasB qs p = true) : withinB ps qs = true := by
 unfold withinB okB
 rw [decide_eq_true h1, decide_eq_true h2, Bool.true_and, Bool.true_and, List.all_eq_true]
 intro p hp
 obtain ⟨j, hj⟩ := List.mem_iff_getElem?.1 hp
 have := h j p (List.getElem?_eq_some_iff.1 hj).1 hj
 unfold hasB at this
 simp only [Bool.and_eq_true] at this
 exact this.2
theorem rwithin_walk (s : ByteArray) (l : List UInt8) (hs : s.data.toList = l) (hm : s.size ≤ 1000000) (t : ByteArray) (m : List UInt8) (ht : t.data.toList = m) (hm2 : t.size ≤ 1000000) (w : World) :
  Calls Tryz.prog 56 #[.string s, .string t] w fun e w' => e = .returned (.bool (withinB (splitC 32 l) (splitC 32 m))) ∧ Below w.heap.size w w' := by
 have cp := Lib.hid (rparse_walk s l hs w hm)
 have cp2 := Lib.hid (fun w => rparse_walk t m ht w hm2)
 have ch := Lib.hid (fun x q hx w => rhas_walk t m ht hm2 x q hx w)
 obtain ⟨ps, hps⟩ : ∃ ps, splitC 32 l = ps := ⟨_, rfl⟩
 obtain ⟨qs, hqs⟩ : ∃ qs, splitC 32 m = qs := ⟨_, rfl⟩
 rw [hps] at cp ⊢
 rw [hqs] at cp2 ch ⊢
 clear hps hqs
 go_enter Tryz.func56, Tryz.ntmps56
 go_wp2_with fail
 refine cp.out.mono ?_
 rintro _ w1 ⟨hb, ⟨h0, g, c, rfl, hg, hc1, hc2, hr⟩ | ⟨h0, rfl⟩⟩
 ·
  have HB := Lib.hid hb
  have HR := Lib.hid hr
  have hl := ok_len h0
  have H0 := Lib.hid h0
  have hsz := hb.size
  clear hb hr h0
  go_wp2_with fail
  refine (cp2.out w1).mono ?_
  rintro _ w2 ⟨hb, ⟨h0, g2, c2, rfl, hg2, _, _, _⟩ | ⟨h0, rfl⟩⟩
  ·
   have HB2 := Lib.hid (below_next HB.out hb)
   have HR2 := Lib.hid (HR.out.below hb HR.out.1)
   have H2 := Lib.hid h0
   clear hb h0 HB HR
   go_wp2_with fail
   go_loopw [9] (fun iv wr => ∃ k : Nat, k ≤ ps.length ∧ iv = .int .i64 k ∧ Hid (∀ j p, j < k → ps[j]? = some p → hasB qs p = true) ∧ Hid (RowS wr g ps) ∧ Hid (Below w.heap.size w wr)) (fun iv _ => ps.length - (intOf iv).toNat)
   case atStart => exact ⟨0, by omega, rfl, fun j p hj => by omega, HR2, HB2⟩
   case round =>
    clear HR2 HB2
    obtain ⟨k, hk, rfl, hp, hR, HB⟩ := hrel
    by_cases hlt : k < ps.length
    ·
     obtain ⟨p, hpk⟩ : ∃ p, ps[k]? = some p := ⟨_, List.getElem?_eq_getElem (by omega)⟩
     have hc := hR.out.2 k p hpk
     have hmem := Lib.hid (List.mem_of_getElem? hpk)
     have ch1 := Lib.hid (ch.out ⟨p.toArray⟩ p (by simp) wr)
     have HPK := Lib.hid hpk
     clear hpk
     cases hh : hasB qs p
     ·
      rw [hh] at ch1
      have hv := Lib.hid (within_not hmem.out hh)
      go_wp2_with fail
      refine ch1.out.mono ?_
      rintro _ w3 ⟨rfl, hb3⟩
      have HB3 := Lib.hid (below_next HB.out hb3)
      clear hb3
      go_wp2_with fail
      go_ret
      exact ⟨by rw [hv.out]; rfl, HB3.out⟩
     ·
      rw [hh] at ch1
      have HN : Hid (∀ j p, j < k + 1 → ps[j]? = some p → hasB qs p = true) := fun j p' hj hp' => by
       rcases Nat.lt_succ_iff_lt_or_eq.1 hj with h | rfl
       ·
        exact hp.out j p' h hp'
       ·
        rw [HPK.out] at hp'; injection hp' with hp'; subst hp'; exact hh
      clear hh
      go_wp2_with fail
      refine ch1.out.mono ?_
      rintro _ w3 ⟨rfl, hb3⟩
      have HB3 := Lib.hid (below_next HB.out hb3)
      have HR3 := Lib.hid (hR.out.below hb3 hR.out.1)
      clear hb3
      go_wp2_with fail
      exact ⟨⟨k + 1, by omega, by go_num, HN, HR3, HB3⟩, by simp [intOf]; omega⟩
    ·
     have hv := Lib.hid (within_yes H0.out H2.out (fun j p hj hp' => hp.out j p (by omega) hp'))
     go_wp2_with fail
     go_ret
     exact ⟨by rw [hv.out]; rfl, HB.out⟩
  ·
   have HB2 := Lib.hid (below_next HB.out hb)
   have hv := Lib.hid (within_no (ps := ps) (Or.inr h0))
   have hk : (((scopeE qs : Nat) : Int) == 0) = false := by simpa using h0
   clear hb h0 HB
   go_wp2_with fail
   go_ret
   exact ⟨by rw [hv.out]; rfl, HB2.out⟩
 ·
  have HB := Lib.hid hb
  have hv := Lib.hid (within_no (qs := qs) (Or.inl h0))
  have hk2 : (((scopeE ps : Nat) : Int) != 0) = true := by simpa using h0
  have hk : (((scopeE ps : Nat) : Int) == 0) = false := by simpa using h0
  clear hb h0
  go_wp2_with fail
  refine (cp2.out w1).mono ?_
  rintro _ w2 ⟨hb, h⟩
  have HB2 := Lib.hid (below_next HB.out hb)
  clear hb HB
  rcases h with ⟨hx0, g2, c2, rfl, _, _, _, _⟩ | ⟨hx0, rfl⟩ <;> clear hx0
  ·
   go_wp2_with fail
   go_ret
   exact ⟨by rw [hv.out]; rfl, HB2.out⟩
  ·
   go_wp2_with fail
   go_ret
   exact ⟨by rw [hv.out]; rfl, HB2.out⟩
end
section
open Go.RowKit Go.Maps
def boolElem : Value → Option (DataW Unit × List MemPlace)
 | .bool b => some (.lit (.bool b), [])
 | _ => none
def keysS (ps : List (List UInt8)) : List Lit := ps.map Lit.string
def mapS (ps : List (List UInt8)) : DataW Unit := setOf (.lit (.bool true)) (keysS ps)
def MapS (w : World) (b : Nat) (ps : List (List UInt8)) : Prop := ∃ n, w.ownsMap Tryz.prog 9 boolElem b n (mapS ps)
theorem MapS.below {w w' : World} {b B : Nat} {ps : List (List UInt8)} (h : MapS w b ps) (hb : Below B w w') (hB : b < B) : MapS w' b ps := by
 obtain ⟨n, es, clock, h1, h2⟩ := h
 exact ⟨n, es, clock, (hb.block b hB).trans h1, h2⟩
theorem MapS.lt {w : World} {b : Nat} {ps : List (List UInt8)} (h : MapS w b ps) : b < w.heap.size := by
 obtain ⟨n, h⟩ := h
 exact h.lt
end
section
open Go.RowKit Go.Maps
theorem MapS.kept {w w' : World} {b : Nat} {ps : List (List UInt8)} {row : Option Nat} (h : MapS w b ps) (hg : w.grownBy w' row) (hne : some b ≠ row) : MapS w' b ps := by
 obtain ⟨n, h⟩ := h
 exact ⟨n, h.kept hg hne⟩
end
section
open Go.RowKit
theorem getD_size {L : List ByteArray} {n : Nat} (h : ∀ x ∈ L, x.size ≤ n) (r : Nat) : (L.getD r ByteArray.empty).size ≤ n := by
 rw [List.getD_eq_getElem?_getD]
 cases e : L[r]? with
 | none => simp
 | some x => exact h x (List.mem_of_getElem? e)
end
section
open Go.RowKit
theorem ParseR.ok {ps : List (List UInt8)} {w w' : World} {e : Ending} (h : ParseR ps w e w') (h0 : scopeE ps = 0) : ∃ g c, e = .returned (.tuple #[.slice (some ⟨g, 0, none⟩) ps.length c, .int .i64 0]) ∧ Below w.heap.size w w' ∧ ps.length ≤ c ∧ c ≤ 9223372036854775807 ∧ RowS w' g ps := by
 obtain ⟨hb, ⟨_, g, c, he, _, h1, h2, hr⟩ | ⟨hn, _⟩⟩ := h
 ·
  exact ⟨g, c, he, hb, h1, h2, hr⟩
 ·
  exact absurd h0 hn
end
end S16
end Go.Proofs.YtnhjgocdepbajaaGreat

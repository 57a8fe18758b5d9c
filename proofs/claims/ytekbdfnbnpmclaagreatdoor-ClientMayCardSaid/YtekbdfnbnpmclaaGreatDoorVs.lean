/- Scopes: text.Word, scope.Parse and their like; scopes off the tape. No condition of its own. -/
import Derived.Test.YtekbdfnbnpmclaaGreatDoorVc
import Derived.Test.YtekbdfnbnpmclaaGreatDoorVb
import Derived.Test.YtekbdfnbnpmclaaGreatDoorVa
import Derived.Test.YtekbdfnbnpmclaaGreatDoorVa
set_option linter.unusedVariables false
set_option linter.unusedSimpArgs false
set_option maxRecDepth 20000
namespace Go.Proofs.YtekbdfnbnpmclaaGreatDoor
namespace S16
section
open Go.RowKit
theorem tells_plain : TellsC 40 plainB := ⟨fun _ _ => by kernel_rfl, fun c w _ => plain_walk c w⟩
def wordB (l : List UInt8) : Bool := decide (1 ≤ l.length) && decide (l.length ≤ 128) && (l.all fun b => plainB b.toNat)
theorem word_walk (s : ByteArray) (l : List UInt8) (hs : s.data.toList = l) (w : World) (hm : s.size ≤ 1000000) :
    Calls Tryz.prog 28 #[.string s] w fun e w' => e = .returned (.bool (wordB l)) ∧ w = w' := by
  have hsz : l.length = s.size := by rw [← hs, Lib.size_eq]
  have hmf : ∀ (fn : Fn) (first cap : Array Value) (w : World), (Instr.makeFunc fn first cap).run Tryz.prog w = .ok (.func fn first cap) w := fun _ _ _ _ => rfl
  have e : Hid (wordB l = (decide (1 ≤ l.length) && decide (l.length ≤ 128) && (l.all fun b => plainB b.toNat))) := rfl
  have ca := Lib.hid (fun w => all_walk _ _ tells_plain s l hs w hm)
  by_cases h0 : s.size = 0
  · have he : s.toList = [] := str_nil h0
    go_enter Tryz.func28, Tryz.ntmps28
    go_wp2_with fail
    go_ret
    refine ⟨?_, rfl⟩
    rw [e.out, show l.length = 0 by omega]
    rfl
  · have he : s.toList.isEmpty = false := (str_ne h0).1
    have he2 : ¬ s.toList = [] := (str_ne h0).2
    by_cases h1 : s.size ≤ 128
    · go_enter Tryz.func28, Tryz.ntmps28
      go_wp2_with fail
      refine (ca.out _).mono ?_
      rintro _ w1 ⟨rfl, rfl⟩
      go_wp2_with fail
      go_ret
      refine ⟨?_, rfl⟩
      rw [e.out, show decide (1 ≤ l.length) = true by simp; omega, show decide (l.length ≤ 128) = true by simp; omega]
      rfl
    · go_enter Tryz.func28, Tryz.ntmps28
      go_wp2_with fail
      go_ret
      refine ⟨?_, rfl⟩
      rw [e.out, show decide (l.length ≤ 128) = false by simp; omega]
      simp
def letterB (c : Nat) : Bool := decide (65 ≤ c) && decide (c ≤ 90) || decide (97 ≤ c) && decide (c ≤ 122)
theorem rletter_walk (c : Nat) (w : World) : Calls Tryz.prog 42 #[.int .u8 (c : Int)] w fun e w' => e = .returned (.bool (letterB c)) ∧ w = w' := by
  have e : Hid (letterB c = (decide (65 ≤ c) && decide (c ≤ 90) || decide (97 ≤ c) && decide (c ≤ 122))) := rfl
  by_cases h1 : 65 ≤ c <;> by_cases h2 : c ≤ 90 <;> by_cases h3 : 97 ≤ c <;> by_cases h4 : c ≤ 122
  all_goals
    go_enter Tryz.func42, Tryz.ntmps42
    go_wp2_with fail
    all_goals
      go_ret
      refine ⟨?_, rfl⟩
      rw [e.out]
      first | (simp [h1, h2, h3, h4]; done) | (simp [h1, h2, h3, h4]; omega)
theorem rdigit_walk (c : Nat) (w : World) : Calls Tryz.prog 43 #[.int .u8 (c : Int)] w fun e w' => e = .returned (.bool (digitB c)) ∧ w = w' := by
  have e : Hid (digitB c = (decide (48 ≤ c) && decide (c ≤ 57))) := rfl
  by_cases h1 : 48 ≤ c <;> by_cases h2 : c ≤ 57
  all_goals
    go_enter Tryz.func43, Tryz.ntmps43
    go_wp2_with fail
    all_goals
      go_ret
      refine ⟨?_, rfl⟩
      rw [e.out]
      first | (simp [h1, h2]; done) | (simp [h1, h2]; omega)
theorem any_yes {l : List UInt8} {p : Nat → Bool} {k : Nat} (hk : k < l.length) (h : p (l.getD k 0).toNat = true) : (l.any fun b => p b.toNat) = true := by
  rw [List.any_eq_true]
  exact ⟨l[k], List.getElem_mem hk, by rw [List.getD_eq_getElem?_getD, List.getElem?_eq_getElem hk] at h; simpa using h⟩
theorem any_no {l : List UInt8} {p : Nat → Bool} (h : ∀ j, j < l.length → p (l.getD j 0).toNat = false) : (l.any fun b => p b.toNat) = false := by
  rw [List.any_eq_false]
  intro x hx
  obtain ⟨j, hj, he⟩ := List.getElem_of_mem hx
  have := h j hj
  rw [List.getD_eq_getElem?_getD, List.getElem?_eq_getElem hj, Option.getD_some, he] at this
  rw [this]; simp
theorem upto_one {l : List UInt8} {p : Nat → Bool} {t : Bool} {k b : Nat} (h : ∀ j, j < k → p (l.getD j 0).toNat = t) (hb : (l.getD k 0).toNat = b) (hp : p b = t) : ∀ j, j < k + 1 → p (l.getD j 0).toNat = t := by
  intro j hj
  rcases Nat.lt_or_ge j k with h' | h'
  · exact h j h'
  · rw [show j = k by omega, hb]; exact hp
set_option maxHeartbeats 400000 in
theorem rin_walk (c : Nat) (s : ByteArray) (l : List UInt8) (hs : s.data.toList = l) (w : World) (hm : s.size ≤ 1000000) :
    Calls Tryz.prog 44 #[.int .u8 (c : Int), .string s] w fun e w' => e = .returned (.bool (l.any fun b => b.toNat == c)) ∧ w = w' := by
  have hsz : l.length = s.size := by rw [← hs, Lib.size_eq]
  go_enter Tryz.func44, Tryz.ntmps44
  go_wp2_with fail
  go_loopw [5] (fun nv wr => ∃ k : Nat, k ≤ s.size ∧ nv = .int .i64 k ∧ Hid (∀ j, j < k → ((l.getD j 0).toNat == c) = false) ∧ w = wr) (fun nv _ => s.size - (intOf nv).toNat)
  case atStart => exact ⟨0, by omega, rfl, fun j hj => by omega, rfl⟩
  case round =>
    obtain ⟨k, hk, rfl, hp, rfl⟩ := hrel
    by_cases hlt : k < s.size
    · obtain ⟨b, eb, hb, hb2⟩ : ∃ b : Nat, (s[k]'hlt).toNat = b ∧ Hid ((l.getD k 0).toNat = b) ∧ b < 256 := ⟨_, str_at hs hlt, rfl, (l.getD k 0).toNat_lt⟩
      cases hpk : (b == c)
      · have hq : ((b : Int) == (c : Int)) = false := by rw [beq_eq_false_iff_ne] at hpk ⊢; omega
        have HN := Lib.hid (upto_one (p := (· == c)) hp.out hb.out hpk)
        clear hpk
        go_wp2_with fail
        exact ⟨⟨k + 1, by omega, by go_num, HN, trivial⟩, by simp [intOf]; omega⟩
      · have hq : ((b : Int) == (c : Int)) = true := by rw [beq_iff_eq] at hpk ⊢; omega
        have hv : Hid ((l.any fun b => b.toNat == c) = true) := any_yes (k := k) (p := (· == c)) (by omega) (by rw [hb.out]; exact hpk)
        clear hpk
        go_wp2_with fail
        go_ret
        exact ⟨by rw [hv.out]; rfl, rfl⟩
    · have hv : Hid ((l.any fun b => b.toNat == c) = false) := any_no (p := (· == c)) (fun j hj => hp.out j (by omega))
      go_wp2_with fail
      go_ret
      exact ⟨by rw [hv.out]; rfl, rfl⟩
theorem lits : Hid ((ByteArray.mk #[45, 46, 95, 126]).data.toList = [45, 46, 95, 126]) := rfl
def rplainB (c : Nat) : Bool := letterB c || digitB c || ([45, 46, 95, 126] : List UInt8).any fun b => b.toNat == c
theorem rplain_eq : ∀ c : Fin 256, rplainB c.val = plainB c.val := by decide +kernel
set_option maxHeartbeats 1000000 in
theorem rplain_walk (c : Nat) (w : World) : Calls Tryz.prog 32 #[.int .u8 (c : Int)] w fun e w' => e = .returned (.bool (rplainB c)) ∧ w = w' := by
  have e : Hid (rplainB c = (letterB c || digitB c || ([45, 46, 95, 126] : List UInt8).any fun b => b.toNat == c)) := rfl
  have c1 := Lib.hid (rletter_walk c)
  have c2 := Lib.hid (rdigit_walk c)
  have c3 := Lib.hid (fun w => rin_walk c ⟨#[45, 46, 95, 126]⟩ [45, 46, 95, 126] rfl w (by decide))
  cases h1 : letterB c <;> rw [h1] at c1 e
  · cases h2 : digitB c <;> rw [h2] at c2 e
    · cases h3 : (([45, 46, 95, 126] : List UInt8).any fun b => b.toNat == c) <;> rw [h3] at c3 e <;> clear h3
      all_goals
        go_enter Tryz.func32, Tryz.ntmps32
        go_wp2_with fail
        refine (c1.out _).mono ?_
        rintro _ w1 ⟨rfl, rfl⟩
        go_wp2_with fail
        refine (c2.out _).mono ?_
        rintro _ w1 ⟨rfl, rfl⟩
        go_wp2_with fail
        refine (c3.out _).mono ?_
        rintro _ w1 ⟨rfl, rfl⟩
        go_wp2_with fail
        go_ret
        exact ⟨by rw [e.out]; rfl, rfl⟩
    · go_enter Tryz.func32, Tryz.ntmps32
      go_wp2_with fail
      refine (c1.out _).mono ?_
      rintro _ w1 ⟨rfl, rfl⟩
      go_wp2_with fail
      refine (c2.out _).mono ?_
      rintro _ w1 ⟨rfl, rfl⟩
      go_wp2_with fail
      go_ret
      exact ⟨by rw [e.out]; simp, rfl⟩
  · go_enter Tryz.func32, Tryz.ntmps32
    go_wp2_with fail
    refine (c1.out _).mono ?_
    rintro _ w1 ⟨rfl, rfl⟩
    go_wp2_with fail
    go_ret
    exact ⟨by rw [e.out]; simp, rfl⟩
set_option maxHeartbeats 1000000 in
theorem rword_walk (s : ByteArray) (l : List UInt8) (hs : s.data.toList = l) (w : World) (hm : s.size ≤ 1000000) :
    Calls Tryz.prog 18 #[.string s] w fun e w' => e = .returned (.bool (wordB l)) ∧ w = w' := by
  have hsz : l.length = s.size := by rw [← hs, Lib.size_eq]
  have e : Hid (wordB l = (decide (1 ≤ l.length) && decide (l.length ≤ 128) && (l.all fun b => plainB b.toNat))) := rfl
  go_enter Tryz.func18, Tryz.ntmps18
  go_wp2_with fail
  go_loopw [3] (fun nv wr => ∃ k : Nat, k ≤ s.size ∧ nv = .int .i64 k ∧ Hid (∀ j, j < k → plainB (l.getD j 0).toNat = true) ∧ w = wr) (fun nv _ => s.size - (intOf nv).toNat)
  case atStart => exact ⟨0, by omega, rfl, fun j hj => by omega, rfl⟩
  case round =>
    obtain ⟨k, hk, rfl, hp, rfl⟩ := hrel
    by_cases hlt : k < s.size
    · obtain ⟨b, eb, hb, hb2⟩ : ∃ b : Nat, (s[k]'hlt).toNat = b ∧ Hid ((l.getD k 0).toNat = b) ∧ b < 256 := ⟨_, str_at hs hlt, rfl, (l.getD k 0).toNat_lt⟩
      have cF := Lib.hid (rplain_walk b)
      rw [rplain_eq ⟨b, hb2⟩] at cF
      cases hpk : plainB b <;> simp only [hpk] at cF
      · have hv : Hid ((l.all fun b => plainB b.toNat) = false) := all_no (k := k) (by omega) (by rw [hb.out]; exact hpk)
        clear hpk
        go_wp2_with fail
        refine (cF.out _).mono ?_
        rintro _ w1 ⟨rfl, rfl⟩
        go_wp2_with fail
        go_ret
        exact ⟨by rw [e.out, hv.out, Bool.and_false]; rfl, rfl⟩
      · have HN := Lib.hid (upto_one (p := plainB) hp.out hb.out hpk)
        clear hpk
        go_wp2_with fail
        refine (cF.out _).mono ?_
        rintro _ w1 ⟨rfl, rfl⟩
        go_wp2_with fail
        exact ⟨⟨k + 1, by omega, by go_num, HN, trivial⟩, by simp [intOf]; omega⟩
    · have hv : Hid ((l.all fun b => plainB b.toNat) = true) := all_yes (fun j hj => hp.out j (by omega))
      by_cases h1 : 1 ≤ s.size <;> by_cases h2 : s.size ≤ 128
      all_goals
        go_wp2_with fail
        all_goals
          go_ret
          refine ⟨?_, rfl⟩
          rw [e.out, hv.out]
          first | (simp [hsz, h1, h2]; done) | (simp [hsz, h1, h2]; omega)
end
section
open Go.RowKit
def goE : List (List UInt8) → List (List UInt8) → Nat
  | _, [] => 0
  | seen, p :: ps => if wordB p = false then 3 else if seen.contains p then 6 else goE (seen ++ [p]) ps
def scopeE (ps : List (List UInt8)) : Nat := if ps.length ≤ 8 then goE [] ps else 7
theorem goE_at (ps : List (List UInt8)) (k : Nat) (p : List UInt8) (h : ps[k]? = some p) :
    goE (ps.take k) (ps.drop k) = if wordB p = false then 3 else if (ps.take k).contains p then 6 else goE (ps.take (k + 1)) (ps.drop (k + 1)) := by
  have hk := (List.getElem?_eq_some_iff.1 h).1
  have hp : ps[k] = p := (List.getElem?_eq_some_iff.1 h).2
  rw [List.drop_eq_getElem_cons hk, hp, goE, List.take_add_one, h]
  rfl
theorem goE_end (ps : List (List UInt8)) : goE (ps.take ps.length) (ps.drop ps.length) = 0 := by rw [List.drop_length]; unfold goE; rfl
theorem splitC_mem (c : UInt8) : ∀ (l : List UInt8) (p : List UInt8), p ∈ splitC c l → p.length ≤ l.length
  | [], p, h => by simp [splitC] at h; subst h; simp
  | x :: l, p, h => by
    have ih := splitC_mem c l
    rw [splitC] at h
    split at h
    · rcases List.mem_cons.1 h with rfl | h
      · simp
      · have := ih p h; simp; omega
    · split at h
      · simp at h; subst h; simp
      · rename_i q qs hq
        rcases List.mem_cons.1 h with rfl | h
        · have := ih q (by rw [hq]; simp); simp; omega
        · have := ih p (by rw [hq]; simp [h]); simp; omega
/-- a row of texts in memory -/
def RowS (w : World) (g : Nat) (ps : List (List UInt8)) : Prop := g < w.heap.size ∧ ∀ j p, ps[j]? = some p → w.cell? ⟨g, j, none⟩ = some (.string ⟨p.toArray⟩)
section
variable {w w' : World} {g : Nat} {ps : List (List UInt8)}
theorem RowS.below (h : RowS w g ps) {B : Nat} (hb : Below B w w') (hg : g < B) : RowS w' g ps :=
  ⟨by have := h.1; have := hb.size; omega, fun j p hp => (hb.cell hg).trans (h.2 j p hp)⟩
theorem RowS.drewN (h : RowS w g ps) (q : Nat) : RowS (w.drewN q) g ps := h
theorem RowS.of_blk {t : TypeId} (h : Blk w g t (strVs ps).toArray) : RowS w g ps :=
  ⟨h.lt, fun j p hp => by rw [h.cell j]; simp [strVs, strV, hp]⟩
end
def ParseR (ps : List (List UInt8)) (w : World) (e : Ending) (w' : World) : Prop :=
  Below w.heap.size w w' ∧ ((scopeE ps = 0 ∧ ∃ g c, e = .returned (.tuple #[.slice (some ⟨g, 0, none⟩) ps.length c, .int .i64 0]) ∧ w.heap.size ≤ g ∧ ps.length ≤ c ∧ c ≤ 9223372036854775807 ∧ RowS w' g ps) ∨ (scopeE ps ≠ 0 ∧ e = .returned (.tuple #[.slice none 0 0, .int .i64 (scopeE ps)])))
theorem eq_str (p q : List UInt8) (x : ByteArray) (hx : x.data.toList = q) : (p == x.toList) = decide (p = q) := by
  rw [ByteArray.toList_eq, hx, Bool.eq_iff_iff]; simp
set_option maxHeartbeats 4000000 in
theorem in_walk (g n c : Nat) (ps : List (List UInt8)) (q : List UInt8) (x : ByteArray) (hx : x.data.toList = q) (w : World) (hr : RowS w g ps) (hn : n ≤ ps.length) (hb : n ≤ 1000001) :
    Calls Tryz.prog 31 #[.slice (some ⟨g, 0, none⟩) n c, .string x] w fun e w' => e = .returned (.bool ((ps.take n).contains q)) ∧ w = w' := by
  go_enter Tryz.func31, Tryz.ntmps31
  go_wp2_with fail
  go_loopw [5] (fun iv wr => ∃ k : Nat, k ≤ n ∧ iv = .int .i64 k ∧ Hid (∀ j p, j < k → ps[j]? = some p → p ≠ q) ∧ w = wr) (fun iv _ => n - (intOf iv).toNat)
  case atStart => exact ⟨0, by omega, rfl, fun j p hj => by omega, rfl⟩
  case round =>
    obtain ⟨k, hk, rfl, hp, rfl⟩ := hrel
    by_cases hlt : k < n
    · obtain ⟨p, hpk⟩ : ∃ p, ps[k]? = some p := ⟨_, List.getElem?_eq_getElem (by omega)⟩
      have hc := hr.2 k p hpk
      have hcmp := eq_str p q x hx
      by_cases he : p = q
      · have hv : Hid ((ps.take n).contains q = true) := by
          show _ = _
          rw [List.contains_iff_mem, ← he]
          exact List.mem_of_getElem? (i := k) (by rw [List.getElem?_take, if_pos hlt, hpk])
        have HK := Lib.hid hpk
        clear hpk
        rw [decide_eq_true he] at hcmp
        clear he
        go_wp2_with fail
        go_ret
        exact ⟨by rw [hv.out]; rfl, rfl⟩
      · rw [decide_eq_false he] at hcmp
        have HN : Hid (∀ j p, j < k + 1 → ps[j]? = some p → p ≠ q) := fun j p' hj hp' => by
          rcases Nat.lt_succ_iff_lt_or_eq.1 hj with h | rfl
          · exact hp.out j p' h hp'
          · rw [hpk] at hp'; injection hp' with hp'; subst hp'; exact he
        have HK := Lib.hid hpk
        clear hpk he
        go_wp2_with fail
        exact ⟨⟨k + 1, by omega, by go_num, HN, trivial⟩, by simp [intOf]; omega⟩
    · have hv : Hid ((ps.take n).contains q = false) := by
        show _ = _
        rw [Bool.eq_false_iff, ne_eq, List.contains_iff_mem, List.mem_iff_getElem?]
        rintro ⟨j, hj⟩
        rw [List.getElem?_take] at hj
        split at hj
        · exact hp.out j q (by omega) hj rfl
        · simp at hj
      go_wp2_with fail
      go_ret
      exact ⟨by rw [hv.out]; rfl, rfl⟩
theorem contains_walk (g n c : Nat) (ps : List (List UInt8)) (q : List UInt8) (x : ByteArray) (hx : x.data.toList = q) (w : World) (hr : RowS w g ps) (hn : n ≤ ps.length) (hb : n ≤ 1000001) :
    Calls Tryz.prog 23 #[.slice (some ⟨g, 0, none⟩) n c, .string x] w fun e w' => e = .returned (.bool ((ps.take n).contains q)) ∧ w = w' := by
  have h := Tryz.slices_Contains_string g 0 n c (ps.map fun p => ⟨p.toArray⟩) x w (by simpa using hn) (by omega) (fun j hj => by
    have hj' : j < ps.length := by simpa using hj
    have := hr.2 j _ (List.getElem?_eq_getElem hj')
    simpa [hj'] using this)
  have he : Lib.containsS ((ps.map fun p => (⟨p.toArray⟩ : ByteArray)).take n) x = (ps.take n).contains q := by
    rw [Bool.eq_iff_iff, Lib.containsS_iff, List.contains_iff_mem, ← List.map_take, List.mem_map]
    constructor
    · rintro ⟨p, hp, rfl⟩
      have : p = q := by simpa using hx
      subst this; exact hp
    · intro h
      exact ⟨q, h, (str_eta x q hx).symm⟩
  rw [he] at h
  refine h.mono ?_
  rintro _ _ ⟨rfl, rfl⟩
  exact ⟨rfl, rfl⟩
theorem clip_walk (g n c : Nat) (w : World) (hn : n ≤ c) (hc : c ≤ 9223372036854775807) :
    Calls Tryz.prog 38 #[.slice (some ⟨g, 0, none⟩) n c] w fun e w' => e = .returned (.slice (some ⟨g, 0, none⟩) n n) ∧ w = w' := by
  go_enter Tryz.func38, Tryz.ntmps38
  go_wp2_with fail
  go_ret
  exact ⟨rfl, rfl⟩
end
section
open Go.RowKit
set_option maxHeartbeats 4000000 in
theorem parse_walk (s : ByteArray) (l : List UInt8) (hs : s.data.toList = l) (w : World) (hm : s.size ≤ 1000000) :
    Calls Tryz.prog 27 #[.string s] w (ParseR (splitC 32 l) w) := by
  have cs := Lib.hid (split_walk s l hs 32 w hm)
  have hsz : l.length = s.size := by rw [← hs, Lib.size_eq]
  have hmem := Lib.hid (splitC_mem 32 l)
  have hlen : (splitC 32 l).length ≤ s.size + 1 := by
    have := splitC_len 32 l
    have : l.count 32 ≤ l.length := List.count_le_length
    omega
  obtain ⟨ps, hps⟩ : ∃ ps, splitC 32 l = ps := ⟨_, rfl⟩
  rw [hps] at cs hmem hlen ⊢
  clear hps
  go_enter Tryz.func27, Tryz.ntmps27
  go_wp2_with fail
  refine cs.out.mono ?_
  rintro _ w1 ⟨g, rfl, hg, hblk, hbel⟩
  have hr := RowS.of_blk hblk
  have HB := Lib.hid hbel
  have hsz1 := hbel.size
  clear hblk hbel
  have hR := Lib.hid hr
  clear hr
  by_cases h8 : ps.length ≤ 8
  · have hE : Hid (scopeE ps = goE [] ps) := if_pos h8
    go_wp2_with fail
    go_loopw [14] (fun iv wr => ∃ k : Nat, k ≤ ps.length ∧ iv = .int .i64 k ∧ Hid (goE (ps.take k) (ps.drop k) = scopeE ps) ∧ w1 = wr) (fun iv _ => ps.length - (intOf iv).toNat)
    case atStart => exact ⟨0, by omega, rfl, hE.out.symm, rfl⟩
    case round =>
      obtain ⟨k, hk, rfl, hp, rfl⟩ := hrel
      by_cases hlt : k < ps.length
      · obtain ⟨p, hpk⟩ : ∃ p, ps[k]? = some p := ⟨_, List.getElem?_eq_getElem (by omega)⟩
        have hc := hR.out.2 k p hpk
        have hpl := hmem.out p (List.mem_of_getElem? hpk)
        have hst := Lib.hid (goE_at ps k p hpk)
        have cw := Lib.hid (word_walk ⟨p.toArray⟩ p (by simp) w1 (by rw [size_mks]; omega))
        have cc := Lib.hid (contains_walk g k ps.length ps p ⟨p.toArray⟩ (by simp) w1 hR.out (by omega) (by omega))
        clear hpk hpl
        cases hw : wordB p
        · rw [hw] at cw
          have hv : Hid (scopeE ps = 3) := by show _ = _; rw [← hp.out, hst.out, hw]; rfl
          go_wp2_with fail
          refine (cw.out).mono ?_
          rintro _ w1 ⟨rfl, rfl⟩
          go_wp2_with fail
          go_ret2
          exact ⟨HB.out, Or.inr ⟨by rw [hv.out]; decide, by rw [hv.out]; rfl⟩⟩
        · rw [hw] at cw
          cases hin : (ps.take k).contains p
          · rw [hin] at cc
            have hv : Hid (goE (ps.take (k + 1)) (ps.drop (k + 1)) = scopeE ps) := by show _ = _; rw [← hp.out, hst.out, hw, hin]; rfl
            go_wp2_with fail
            refine (cw.out).mono ?_
            rintro _ w1 ⟨rfl, rfl⟩
            go_wp2_with fail
            refine (cc.out).mono ?_
            rintro _ w1 ⟨rfl, rfl⟩
            go_wp2_with fail
            exact ⟨⟨k + 1, by omega, by go_num, hv, trivial⟩, by simp [intOf]; omega⟩
          · rw [hin] at cc
            have hv : Hid (scopeE ps = 6) := by show _ = _; rw [← hp.out, hst.out, hw, hin]; rfl
            go_wp2_with fail
            refine (cw.out).mono ?_
            rintro _ w1 ⟨rfl, rfl⟩
            go_wp2_with fail
            refine (cc.out).mono ?_
            rintro _ w1 ⟨rfl, rfl⟩
            go_wp2_with fail
            go_ret2
            exact ⟨HB.out, Or.inr ⟨by rw [hv.out]; decide, by rw [hv.out]; rfl⟩⟩
      · obtain rfl : k = ps.length := by omega
        have hv : Hid (scopeE ps = 0) := by show _ = _; rw [← hp.out]; exact goE_end ps
        have cl := Lib.hid (clip_walk g ps.length ps.length w1 (Nat.le_refl _) (by omega))
        go_wp2_with fail
        refine (cl.out).mono ?_
        rintro _ w1 ⟨rfl, rfl⟩
        go_wp2_with fail
        go_ret2
        exact ⟨HB.out, Or.inl ⟨hv.out, g, _, rfl, hg, Nat.le_refl _, by omega, hR.out⟩⟩
  · have hv : Hid (scopeE ps = 7) := if_neg h8
    go_wp2_with fail
    go_ret2
    exact ⟨HB.out, Or.inr ⟨by rw [hv.out]; decide, by rw [hv.out]; rfl⟩⟩
set_option maxHeartbeats 4000000 in
theorem rparse_walk (s : ByteArray) (l : List UInt8) (hs : s.data.toList = l) (w : World) (hm : s.size ≤ 1000000) :
    Calls Tryz.prog 16 #[.string s] w (ParseR (splitC 32 l) w) := by
  have cs := Lib.hid (parts_walk s l hs 32 w hm)
  have hsz : l.length = s.size := by rw [← hs, Lib.size_eq]
  have hmem := Lib.hid (splitC_mem 32 l)
  have hlen : (splitC 32 l).length ≤ s.size + 1 := by
    have := splitC_len 32 l
    have : l.count 32 ≤ l.length := List.count_le_length
    omega
  have hne : 0 < (splitC 32 l).length := by have := splitC_len 32 l; omega
  obtain ⟨ps, hps⟩ : ∃ ps, splitC 32 l = ps := ⟨_, rfl⟩
  rw [hps] at cs hmem hlen hne ⊢
  clear hps
  go_enter Tryz.func16, Tryz.ntmps16
  go_wp2_with fail
  refine cs.out.mono ?_
  rintro _ w1 ⟨v, rfl, hown, hbel⟩
  rcases hown.2 with ⟨_, h0⟩ | ⟨g, c, cur, rfl, hgl, hcur, hnc, hcm, _, _⟩
  · omega
  have hglt : g < w1.heap.size := by
    rcases Nat.lt_or_ge g w1.heap.size with h | h
    · exact h
    · rw [Array.getElem?_eq_none h] at hcur; cases hcur
  have hR := Lib.hid (show RowS w1 g ps from ⟨hglt, fun j p hp => by
    have := hown.cells (g := g) rfl j (strV p) (by simp [strVs, hp])
    have hadd : (⟨g, 0, none⟩ : Addr).add j = ⟨g, j, none⟩ := by unfold Addr.add; split <;> simp_all
    rw [hadd] at this
    exact this⟩)
  have HB := Lib.hid hbel
  have hsz1 := hbel.size
  have hcm2 : c ≤ 9223372036854775807 := by unfold maxLen at hcm; omega
  clear hown hcur hbel hcm
  by_cases h8 : ps.length ≤ 8
  · have hE : Hid (scopeE ps = goE [] ps) := if_pos h8
    go_wp2_with fail
    go_loopw [5] (fun iv wr => ∃ k : Nat, k ≤ ps.length ∧ iv = .int .i64 k ∧ Hid (goE (ps.take k) (ps.drop k) = scopeE ps) ∧ Hid (RowS wr g ps) ∧ Hid (Below w.heap.size w wr)) (fun iv _ => ps.length - (intOf iv).toNat)
    case atStart => exact ⟨0, by omega, rfl, hE.out.symm, hR, HB⟩
    case round =>
      clear hR HB
      obtain ⟨k, hk, rfl, hp, hR, HB⟩ := hrel
      by_cases hlt : k < ps.length
      · obtain ⟨p, hpk⟩ : ∃ p, ps[k]? = some p := ⟨_, List.getElem?_eq_getElem (by omega)⟩
        have hc := hR.out.2 k p hpk
        have hpl := hmem.out p (List.mem_of_getElem? hpk)
        have hst := Lib.hid (goE_at ps k p hpk)
        have cw := Lib.hid (rword_walk ⟨p.toArray⟩ p (by simp) wr (by rw [size_mks]; omega))
        have cc := Lib.hid (fun q => in_walk g k c ps p ⟨p.toArray⟩ (by simp) (wr.drewN q) hR.out (by omega) (by omega))
        clear hpk hpl
        cases hw : wordB p
        · rw [hw] at cw
          have hv : Hid (scopeE ps = 3) := by show _ = _; rw [← hp.out, hst.out, hw]; rfl
          go_wp2_with fail
          refine (cw.out).mono ?_
          rintro _ w1 ⟨rfl, rfl⟩
          go_wp2_with fail
          go_ret2
          exact ⟨HB.out, Or.inr ⟨by rw [hv.out]; decide, by rw [hv.out]; rfl⟩⟩
        · rw [hw] at cw
          go_wp2_with fail
          refine (cw.out).mono ?_
          rintro _ w1 ⟨rfl, rfl⟩
          go_wp2_with fail
          have hi1 : (k : Int) < (ps.length : Int) := by omega
          have hi2 : (k : Int) ≤ (c : Int) := by omega
          cases hin : (ps.take k).contains p
          · rw [hin] at cc
            have hv : Hid (goE (ps.take (k + 1)) (ps.drop (k + 1)) = scopeE ps) := by show _ = _; rw [← hp.out, hst.out, hw, hin]; rfl
            go_quiet ((go_at_call 31; refine (cc.out _).mono ?_; rintro e w9 ⟨rfl, rfl⟩; exact ⟨rfl, _, rfl⟩))
            go_wp2_with fail
            exact ⟨⟨k + 1, by omega, by go_num, hv, hR, below_drewN HB.out _⟩, by simp [intOf]; omega⟩
          · rw [hin] at cc
            have hv : Hid (scopeE ps = 6) := by show _ = _; rw [← hp.out, hst.out, hw, hin]; rfl
            go_quiet ((go_at_call 31; refine (cc.out _).mono ?_; rintro e w9 ⟨rfl, rfl⟩; exact ⟨rfl, _, rfl⟩))
            go_wp2_with fail
            go_ret2
            exact ⟨below_drewN HB.out _, Or.inr ⟨by rw [hv.out]; decide, by rw [hv.out]; rfl⟩⟩
      · obtain rfl : k = ps.length := by omega
        have hv : Hid (scopeE ps = 0) := by show _ = _; rw [← hp.out]; exact goE_end ps
        go_wp2_with fail
        go_ret2
        exact ⟨HB.out, Or.inl ⟨hv.out, g, _, rfl, hgl, hnc, hcm2, hR.out⟩⟩
  · have hv : Hid (scopeE ps = 7) := if_neg h8
    go_wp2_with fail
    go_ret2
    exact ⟨HB.out, Or.inr ⟨by rw [hv.out]; decide, by rw [hv.out]; rfl⟩⟩
end
section
open Go.RowKit
theorem below_next {w0 w1 w2 : World} (h : Below w0.heap.size w0 w1) (k : Below w1.heap.size w1 w2) : Below w0.heap.size w0 w2 := h.trans (k.mono h.size)
def okB (ps : List (List UInt8)) : Bool := decide (scopeE ps = 0)
def hasB (ps : List (List UInt8)) (q : List UInt8) : Bool := okB ps && ps.contains q
def withinB (ps qs : List (List UInt8)) : Bool := okB ps && (okB qs && ps.all fun p => qs.contains p)
theorem ok_len {ps : List (List UInt8)} (h : scopeE ps = 0) : ps.length ≤ 8 := by
  unfold scopeE at h
  split at h
  · assumption
  · simp at h
theorem within_no {ps qs : List (List UInt8)} (h : scopeE ps ≠ 0 ∨ scopeE qs ≠ 0) : withinB ps qs = false := by
  unfold withinB okB
  rcases h with h | h <;> simp [h]
theorem within_not {ps qs : List (List UInt8)} {p : List UInt8} (hp : p ∈ ps) (h : hasB qs p = false) : withinB ps qs = false := by
  rw [Bool.eq_false_iff]
  intro hw
  unfold withinB hasB at *
  simp only [Bool.and_eq_true, List.all_eq_true, Bool.and_eq_false_iff] at h hw
  obtain ⟨_, h2, h3⟩ := hw
  have := h3 p hp
  rcases h with h | h
  · rw [h] at h2; cases h2
  · rw [h] at this; cases this
theorem within_yes {ps qs : List (List UInt8)} (h1 : scopeE ps = 0) (h2 : scopeE qs = 0) (h : ∀ j p, j < ps.length → ps[j]? = some p → hasB qs p = true) : withinB ps qs = true := by
  unfold withinB okB
  rw [decide_eq_true h1, decide_eq_true h2, Bool.true_and, Bool.true_and, List.all_eq_true]
  intro p hp
  obtain ⟨j, hj⟩ := List.mem_iff_getElem?.1 hp
  have := h j p (List.getElem?_eq_some_iff.1 hj).1 hj
  unfold hasB at this
  simp only [Bool.and_eq_true] at this
  exact this.2
end
section
open Go.RowKit
def rowsL1 : List ByteArray := [⟨#[111, 112, 101, 110, 105, 100]⟩, ⟨#[112, 114, 111, 102, 105, 108, 101]⟩, ⟨#[97]⟩, ⟨#[98]⟩]
def rowsL2 : List ByteArray := [⟨#[32]⟩, ⟨#[32]⟩, ⟨#[32]⟩, ⟨#[32, 32]⟩, ⟨#[9]⟩]
def rowsL3 : List ByteArray := [⟨#[111, 112, 101, 110, 105, 100]⟩, ⟨#[112, 114, 111, 102, 105, 108, 101]⟩, ⟨#[97]⟩, ⟨#[98]⟩, ⟨#[99]⟩, ⟨#[126]⟩, ⟨#[]⟩, ⟨#[34]⟩]
theorem getD_size {L : List ByteArray} {n : Nat} (h : ∀ x ∈ L, x.size ≤ n) (r : Nat) : (L.getD r ByteArray.empty).size ≤ n := by
  rw [List.getD_eq_getElem?_getD]
  cases e : L[r]? with
  | none => simp
  | some x => exact h x (List.mem_of_getElem? e)
def ScopeR (zs : List Int) (g : Nat) (w : World) (e : Ending) (w' : World) : Prop :=
  ∃ (s : ByteArray) (k : Nat), s.size ≤ 34 ∧ e = .returned (.string s) ∧ TapeAt w' g zs k ∧ w.grownBy w' (some g)
set_option maxHeartbeats 4000000 in
theorem scope_walk (zs : List Int) (g k : Nat) (w : World) (ht : TapeAt w g zs k) :
    Calls Tryz.prog 26 #[.pointer (some ⟨g, 0, none⟩)] w (ScopeR zs g w) := by
  have HT := Lib.hid ht
  have hgl := ht.lt
  clear ht
  go_enter Tryz.func26, Tryz.ntmps26
  go_wp2_with fail
  refine (pick_walk zs g k _ 4 (w.heap.size + 1) rowsL1 (by decide) (by decide) (by decide) _ ?ht ?hr ?hB ?hne).mono ?_
  case ht => exact HT.out.grown (only_alloc (only_refl _ none) _) (fun r e => by cases e)
  case hr => exact reads_row w 9 (rowsL1.map Value.string)
  case hB => simp
  case hne => intro p e; injection e with e; subst e; simp; omega
  have hx := getD_size (L := rowsL1) (n := 7) (by decide) (nextR zs k rowsL1.length).toNat
  generalize rowsL1.getD (nextR zs k rowsL1.length).toNat ByteArray.empty = x at hx
  rintro _ w2 ⟨rfl, ht2, hg2, hs2⟩
  generalize nextA zs k rowsL1.length = k2 at ht2
  have hG := Lib.hid (only_trans (only_alloc (only_refl w (some g)) _) hg2)
  have cn := Lib.hid (next_walk zs g k2 4 w2 ht2 (by omega))
  have hp := nextR_pos zs k2 4 (by omega)
  obtain ⟨r, er⟩ : ∃ r : Nat, nextR zs k2 4 = r := ⟨(nextR zs k2 4).toNat, by omega⟩
  rw [er] at cn hp
  clear ht2 hg2 hs2 HT er
  go_wp2_with fail
  refine cn.out.mono ?_
  rintro _ w3 ⟨rfl, ht3, hg3, hs3⟩
  generalize nextA zs k2 4 = k3 at ht3
  have HG := Lib.hid (only_trans hG.out hg3)
  have HT := Lib.hid ht3
  clear ht3 hg3 hs3 hG cn
  go_wp2_with fail
  go_loopw [3, 4] (fun sv nv wr => ∃ (i k : Nat) (s : ByteArray), i ≤ 3 ∧ nv = .int .i64 i ∧ sv = .string s ∧ s.size ≤ 7 + 9 * (3 - i) ∧ Hid (TapeAt wr g zs k) ∧ Hid (w.grownBy wr (some g))) (fun _ nv _ => (intOf nv).toNat)
  case atStart => exact ⟨r, k3, x, by omega, rfl, rfl, by omega, HT, HG⟩
  case round =>
    clear HT HG
    obtain ⟨i, k, s, hi, rfl, rfl, hs, hT, hG⟩ := hrel
    by_cases hlt : 0 < i
    · have hgl := hT.out.lt
      go_wp2_with fail
      refine (pick_walk zs g k _ 5 (wr.heap.size + 1) rowsL2 (by decide) (by decide) (by decide) _ ?ht ?hr ?hB ?hne).mono ?_
      case ht => exact hT.out.grown (only_alloc (only_refl _ none) _) (fun r e => by cases e)
      case hr => exact reads_row wr 9 (rowsL2.map Value.string)
      case hB => simp
      case hne => intro p e; injection e with e; subst e; simp; omega
      have hx := getD_size (L := rowsL2) (n := 2) (by decide) (nextR zs k rowsL2.length).toNat
      generalize rowsL2.getD (nextR zs k rowsL2.length).toNat ByteArray.empty = x at hx
      rintro _ w2 ⟨rfl, ht2, hg2, hs2⟩
      generalize nextA zs k rowsL2.length = k2 at ht2
      have HG2 := Lib.hid (only_trans hG.out (only_trans (only_alloc (only_refl wr (some g)) _) hg2))
      have HT2 := Lib.hid ht2
      have hgl2 := ht2.lt
      clear ht2 hg2 hs2 hT hG
      go_wp2_with fail
      refine (pick_walk zs g k2 _ 8 (w2.heap.size + 1) rowsL3 (by decide) (by decide) (by decide) _ ?ht2 ?hr2 ?hB2 ?hne2).mono ?_
      case ht2 => exact HT2.out.grown (only_alloc (only_refl _ none) _) (fun r e => by cases e)
      case hr2 => exact reads_row w2 9 (rowsL3.map Value.string)
      case hB2 => simp
      case hne2 => intro p e; injection e with e; subst e; simp; omega
      have hy := getD_size (L := rowsL3) (n := 7) (by decide) (nextR zs k2 rowsL3.length).toNat
      generalize rowsL3.getD (nextR zs k2 rowsL3.length).toNat ByteArray.empty = y at hy
      rintro _ w3 ⟨rfl, ht3, hg3, hs3⟩
      generalize nextA zs k2 rowsL3.length = k4 at ht3
      have HG3 := Lib.hid (only_trans HG2.out (only_trans (only_alloc (only_refl w2 (some g)) _) hg3))
      have HT3 := Lib.hid ht3
      clear ht3 hg3 hs3 HT2 HG2
      go_wp2_with fail
      exact ⟨⟨i - 1, k4, _, by omega, by go_num, rfl, by simp; omega, HT3, HG3⟩, by simp [intOf]; omega⟩
    · go_wp2_with fail
      go_ret
      exact ⟨s, k, by omega, rfl, hT.out, hG.out⟩
end
section
open Go.RowKit
theorem tape_new {w : World} {A : Option Addr} {c : Nat} {zs : List Int} (h : IntsIn w A c zs) :
    TapeAt (w.alloc (.cells #[.slice A zs.length c, .int .i64 0] 41)) w.heap.size zs 0 :=
  ⟨Nat.zero_le _, h.2.1, h.2.2.1, A, c, h.1, Blk.new _ _ _, h.2.2.2.alloc (Nat.le_refl _) _⟩
theorem ParseR.ok {ps : List (List UInt8)} {w w' : World} {e : Ending} (h : ParseR ps w e w') (h0 : scopeE ps = 0) : ∃ g c, e = .returned (.tuple #[.slice (some ⟨g, 0, none⟩) ps.length c, .int .i64 0]) ∧ Below w.heap.size w w' ∧ ps.length ≤ c ∧ c ≤ 9223372036854775807 ∧ RowS w' g ps := by
  obtain ⟨hb, ⟨_, g, c, he, _, h1, h2, hr⟩ | ⟨hn, _⟩⟩ := h
  · exact ⟨g, c, he, hb, h1, h2, hr⟩
  · exact absurd h0 hn
theorem ParseR.err {ps : List (List UInt8)} {w w' : World} {e : Ending} (h : ParseR ps w e w') (n : Nat) (h0 : scopeE ps = n) (hn : n ≠ 0) : e = .returned (.tuple #[.slice none 0 0, .int .i64 n]) ∧ Below w.heap.size w w' := by
  obtain ⟨hb, ⟨h1, _⟩ | ⟨_, he⟩⟩ := h
  · exact absurd (h0.symm.trans h1) hn
  · rw [h0] at he; exact ⟨he, hb⟩
theorem goE_zero : ∀ (ps seen : List (List UInt8)), goE seen ps = 0 → ps.Nodup ∧ (∀ p ∈ ps, wordB p = true) ∧ ∀ p ∈ ps, p ∉ seen
  | [], seen, _ => by simp
  | p :: ps, seen, h => by
    rw [goE] at h
    split at h
    · cases h
    · rename_i hw
      split at h
      · cases h
      · rename_i hc
        obtain ⟨h1, h2, h3⟩ := goE_zero ps _ h
        have hc' : p ∉ seen := by simpa using hc
        refine ⟨List.nodup_cons.2 ⟨fun hp => h3 p hp (by simp), h1⟩, fun q hq => ?_, fun q hq => ?_⟩
        · rcases List.mem_cons.1 hq with rfl | hq
          · simpa using hw
          · exact h2 q hq
        · rcases List.mem_cons.1 hq with rfl | hq
          · exact hc'
          · exact fun hs => h3 q hq (by simp [hs])
theorem ok_go {ps : List (List UInt8)} (h : scopeE ps = 0) : goE [] ps = 0 := by
  have := ok_len h
  rwa [scopeE, if_pos this] at h
theorem nodup_len {α : Type} [DecidableEq α] : ∀ (ps qs : List α), ps.Nodup → (∀ p ∈ ps, p ∈ qs) → ps.length ≤ qs.length
  | [], qs, _, _ => by simp
  | p :: ps, qs, hn, h => by
    obtain ⟨h1, h2⟩ := List.nodup_cons.1 hn
    have hp := h p (by simp)
    have := nodup_len ps (qs.erase p) h2 (fun q hq => (List.mem_erase_of_ne (show q ≠ p by rintro rfl; exact h1 hq)).2 (h q (by simp [hq])))
    rw [List.length_erase_of_mem hp] at this
    have := List.length_pos_of_mem hp
    simp; omega
theorem within_self (ps : List (List UInt8)) : withinB ps ps = okB ps := by
  unfold withinB
  cases okB ps
  · rfl
  · simp
theorem within_ok {ps qs : List (List UInt8)} (h : withinB ps qs = true) : scopeE ps = 0 ∧ scopeE qs = 0 ∧ ∀ p ∈ ps, p ∈ qs := by
  unfold withinB okB at h
  simp only [Bool.and_eq_true, decide_eq_true_eq, List.all_eq_true] at h
  exact ⟨h.1, h.2.1, fun p hp => by simpa using h.2.2 p hp⟩
theorem within_of {ps qs : List (List UInt8)} (h1 : scopeE ps = 0) (h2 : scopeE qs = 0) (h : ∀ p ∈ ps, p ∈ qs) : withinB ps qs = true := by
  unfold withinB okB
  simp only [Bool.and_eq_true, decide_eq_true_eq, List.all_eq_true]
  exact ⟨h1, h2, fun p hp => by simpa using h p hp⟩
theorem within_trans {ps qs rs : List (List UInt8)} (h : withinB ps qs = true) (k : withinB qs rs = true) : withinB ps rs = true := by
  obtain ⟨h1, h2, h3⟩ := within_ok h
  obtain ⟨k1, k2, k3⟩ := within_ok k
  exact within_of h1 k2 fun p hp => k3 p (h3 p hp)
theorem within_len {ps qs : List (List UInt8)} (h : withinB ps qs = true) : ps.length ≤ qs.length := by
  obtain ⟨h1, h2, h3⟩ := within_ok h
  exact nodup_len ps qs (goE_zero ps [] (ok_go h1)).1 h3
theorem has_of {ps : List (List UInt8)} {p : List UInt8} (h : scopeE ps = 0) (hp : p ∈ ps) : hasB ps p = true := by
  unfold hasB okB
  simp only [Bool.and_eq_true, decide_eq_true_eq]
  exact ⟨h, by simpa using hp⟩
end
end S16
end Go.Proofs.YtekbdfnbnpmclaaGreatDoor

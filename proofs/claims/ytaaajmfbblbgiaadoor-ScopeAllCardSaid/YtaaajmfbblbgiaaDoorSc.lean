/- Words of a scope: the plain reckoning goE, and scope.Parse, countersignref16.in, countersignref16.Parse walked to it. No condition of its own. -/
import Derived.Test.YtaaajmfbblbgiaaDoorSq
import Derived.Test.YtaaajmfbblbgiaaDoorWd
set_option linter.unusedVariables false
set_option linter.unusedSimpArgs false
set_option maxRecDepth 20000
namespace Go.Proofs.YtaaajmfbblbgiaaDoor
open Go.RowKit
def goE : List (List UInt8) → List (List UInt8) → Nat
  | _, [] => 0
  | seen, p :: ps => if wordB p = false then 3 else if seen.contains p then 6 else goE (seen ++ [p]) ps
def scopeE (ps : List (List UInt8)) : Nat := if ps.length ≤ 8 then goE [] ps else 7
theorem goE_at (ps : List (List UInt8)) (k : Nat) (p : List UInt8) (h : ps[k]? = some p) :
    goE (ps.take k) (ps.drop k) = if wordB p = false then 3 else if (ps.take k).contains p then 6 else goE (ps.take (k + 1)) (ps.drop (k + 1)) := by
  have hk := (List.getElem?_eq_some_iff.1 h).1
  have hp : ps[k] = p := (List.getElem?_eq_some_iff.1 h).2
  rw [List.drop_eq_getElem_cons hk, hp, goE, List.take_add_one, h]
  rfl
theorem goE_end (ps : List (List UInt8)) : goE (ps.take ps.length) (ps.drop ps.length) = 0 := by rw [List.drop_length]; unfold goE; rfl
theorem splitC_mem (c : UInt8) : ∀ (l : List UInt8) (p : List UInt8), p ∈ splitC c l → p.length ≤ l.length
  | [], p, h => by simp [splitC] at h; subst h; simp
  | x :: l, p, h => by
    have ih := splitC_mem c l
    rw [splitC] at h
    split at h
    · rcases List.mem_cons.1 h with rfl | h
      · simp
      · have := ih p h; simp; omega
    · split at h
      · simp at h; subst h; simp
      · rename_i q qs hq
        rcases List.mem_cons.1 h with rfl | h
        · have := ih q (by rw [hq]; simp); simp; omega
        · have := ih p (by rw [hq]; simp [h]); simp; omega
/-- a row of texts in memory -/
def RowS (w : World) (g : Nat) (ps : List (List UInt8)) : Prop := g < w.heap.size ∧ ∀ j p, ps[j]? = some p → w.cell? ⟨g, j, none⟩ = some (.string ⟨p.toArray⟩)
section
variable {w w' : World} {g : Nat} {ps : List (List UInt8)}
theorem RowS.below (h : RowS w g ps) {B : Nat} (hb : Below B w w') (hg : g < B) : RowS w' g ps :=
  ⟨by have := h.1; have := hb.size; omega, fun j p hp => (hb.cell hg).trans (h.2 j p hp)⟩
theorem RowS.drewN (h : RowS w g ps) (q : Nat) : RowS (w.drewN q) g ps := h
theorem RowS.of_blk {t : TypeId} (h : Blk w g t (strVs ps).toArray) : RowS w g ps :=
  ⟨h.lt, fun j p hp => by rw [h.cell j]; simp [strVs, strV, hp]⟩
end
def ParseR (ps : List (List UInt8)) (w : World) (e : Ending) (w' : World) : Prop :=
  Below w.heap.size w w' ∧ ((scopeE ps = 0 ∧ ∃ g c, e = .returned (.tuple #[.slice (some ⟨g, 0, none⟩) ps.length c, .int .i64 0]) ∧ w.heap.size ≤ g ∧ ps.length ≤ c ∧ c ≤ 9223372036854775807 ∧ RowS w' g ps) ∨ (scopeE ps ≠ 0 ∧ e = .returned (.tuple #[.slice none 0 0, .int .i64 (scopeE ps)])))
theorem eq_str (p q : List UInt8) (x : ByteArray) (hx : x.data.toList = q) : (p == x.toList) = decide (p = q) := by
  rw [ByteArray.toList_eq, hx, Bool.eq_iff_iff]; simp
set_option maxHeartbeats 4000000 in
theorem in_walk (g n c : Nat) (ps : List (List UInt8)) (q : List UInt8) (x : ByteArray) (hx : x.data.toList = q) (w : World) (hr : RowS w g ps) (hn : n ≤ ps.length) (hb : n ≤ 1000001) :
    Calls Tryd.prog 24 #[.slice (some ⟨g, 0, none⟩) n c, .string x] w fun e w' => e = .returned (.bool ((ps.take n).contains q)) ∧ w = w' := by
  go_enter Tryd.func24, Tryd.ntmps24
  go_wp2_with fail
  go_loopw [5] (fun iv wr => ∃ k : Nat, k ≤ n ∧ iv = .int .i64 k ∧ Hid (∀ j p, j < k → ps[j]? = some p → p ≠ q) ∧ w = wr) (fun iv _ => n - (intOf iv).toNat)
  case atStart => exact ⟨0, by omega, rfl, fun j p hj => by omega, rfl⟩
  case round =>
    obtain ⟨k, hk, rfl, hp, rfl⟩ := hrel
    by_cases hlt : k < n
    · obtain ⟨p, hpk⟩ : ∃ p, ps[k]? = some p := ⟨_, List.getElem?_eq_getElem (by omega)⟩
      have hc := hr.2 k p hpk
      have hcmp := eq_str p q x hx
      by_cases he : p = q
      · have hv : Hid ((ps.take n).contains q = true) := by
          show _ = _
          rw [List.contains_iff_mem, ← he]
          exact List.mem_of_getElem? (i := k) (by rw [List.getElem?_take, if_pos hlt, hpk])
        have HK := Lib.hid hpk
        clear hpk
        rw [decide_eq_true he] at hcmp
        clear he
        go_wp2_with fail
        go_ret
        exact ⟨by rw [hv.out]; rfl, rfl⟩
      · rw [decide_eq_false he] at hcmp
        have HN : Hid (∀ j p, j < k + 1 → ps[j]? = some p → p ≠ q) := fun j p' hj hp' => by
          rcases Nat.lt_succ_iff_lt_or_eq.1 hj with h | rfl
          · exact hp.out j p' h hp'
          · rw [hpk] at hp'; injection hp' with hp'; subst hp'; exact he
        have HK := Lib.hid hpk
        clear hpk he
        go_wp2_with fail
        exact ⟨⟨k + 1, by omega, by go_num, HN, trivial⟩, by simp [intOf]; omega⟩
    · have hv : Hid ((ps.take n).contains q = false) := by
        show _ = _
        rw [Bool.eq_false_iff, ne_eq, List.contains_iff_mem, List.mem_iff_getElem?]
        rintro ⟨j, hj⟩
        rw [List.getElem?_take] at hj
        split at hj
        · exact hp.out j q (by omega) hj rfl
        · simp at hj
      go_wp2_with fail
      go_ret
      exact ⟨by rw [hv.out]; rfl, rfl⟩
theorem contains_walk (g n c : Nat) (ps : List (List UInt8)) (q : List UInt8) (x : ByteArray) (hx : x.data.toList = q) (w : World) (hr : RowS w g ps) (hn : n ≤ ps.length) (hb : n ≤ 1000001) :
    Calls Tryd.prog 21 #[.slice (some ⟨g, 0, none⟩) n c, .string x] w fun e w' => e = .returned (.bool ((ps.take n).contains q)) ∧ w = w' := by
  have h := Tryd.slices_Contains_string g 0 n c (ps.map fun p => ⟨p.toArray⟩) x w (by simpa using hn) (by omega) (fun j hj => by
    have hj' : j < ps.length := by simpa using hj
    have := hr.2 j _ (List.getElem?_eq_getElem hj')
    simpa [hj'] using this)
  have he : Lib.containsS ((ps.map fun p => (⟨p.toArray⟩ : ByteArray)).take n) x = (ps.take n).contains q := by
    rw [Bool.eq_iff_iff, Lib.containsS_iff, List.contains_iff_mem, ← List.map_take, List.mem_map]
    constructor
    · rintro ⟨p, hp, rfl⟩
      have : p = q := by simpa using hx
      subst this; exact hp
    · intro h
      exact ⟨q, h, (str_eta x q hx).symm⟩
  rw [he] at h
  refine h.mono ?_
  rintro _ _ ⟨rfl, rfl⟩
  exact ⟨rfl, rfl⟩
theorem clip_walk (g n c : Nat) (w : World) (hn : n ≤ c) (hc : c ≤ 9223372036854775807) :
    Calls Tryd.prog 22 #[.slice (some ⟨g, 0, none⟩) n c] w fun e w' => e = .returned (.slice (some ⟨g, 0, none⟩) n n) ∧ w = w' := by
  go_enter Tryd.func22, Tryd.ntmps22
  go_wp2_with fail
  go_ret
  exact ⟨rfl, rfl⟩
end Go.Proofs.YtaaajmfbblbgiaaDoor

/- countersignlaw16.same. No condition of its own. -/
import Derived.Test.YtaaajmfbblbgiaaDoorSi
set_option linter.unusedVariables false
set_option linter.unusedSimpArgs false
set_option maxRecDepth 20000
namespace Go.Proofs.YtaaajmfbblbgiaaDoor
open Go.RowKit
/-- a row of texts, none perhaps -/
def RowV (w : World) (A : Option Addr) (ps : List (List UInt8)) : Prop := 0 < ps.length → ∃ g, A = some ⟨g, 0, none⟩ ∧ RowS w g ps
theorem RowV.nil (w : World) : RowV w none [] := fun h => by simp at h
theorem RowV.of {w : World} {g : Nat} {ps : List (List UInt8)} (h : RowS w g ps) : RowV w (some ⟨g, 0, none⟩) ps := fun _ => ⟨g, rfl, h⟩
theorem eq_at {ps qs : List (List UInt8)} (hl : ps.length = qs.length) (h : ∀ j p q, j < ps.length → ps[j]? = some p → qs[j]? = some q → p = q) : ps = qs := by
  apply List.ext_getElem hl
  intro j h1 h2
  exact h j _ _ h1 (List.getElem?_eq_getElem h1) (List.getElem?_eq_getElem h2)
set_option maxHeartbeats 4000000 in
theorem same_walk (A B : Option Addr) (c d : Nat) (ps qs : List (List UInt8)) (w : World) (ha : RowV w A ps) (hb : RowV w B qs) (h1 : ps.length ≤ 1000000) (h2 : qs.length ≤ 1000000) :
    Calls Tryd.prog 10 #[.slice A ps.length c, .slice B qs.length d] w fun e w' => e = .returned (.bool (decide (ps = qs))) ∧ ∃ n, w' = w.drewN n := by
  have HA := Lib.hid ha
  have HB := Lib.hid hb
  clear ha hb
  by_cases hl : ps.length = qs.length
  · have HL := Lib.hid hl
    obtain ⟨n, hn⟩ : ∃ n, qs.length = n := ⟨_, rfl⟩
    rw [hl, hn]
    rw [hl, hn] at h1
    have HN := Lib.hid hn
    clear hl hn h2
    go_enter Tryd.func10, Tryd.ntmps10
    go_wp2_with fail
    go_loopw [5] (fun iv wr => ∃ k : Nat, k ≤ n ∧ iv = .int .i64 k ∧ Hid (∀ j p q, j < k → ps[j]? = some p → qs[j]? = some q → p = q) ∧ Hid (∃ m, wr = w.drewN m)) (fun iv _ => n - (intOf iv).toNat)
    case atStart => exact ⟨0, by omega, rfl, fun j p q hj => by omega, ⟨0, rfl⟩⟩
    case round =>
      obtain ⟨k, hk, rfl, hall, HW⟩ := hrel
      have hcl : ∀ a, wr.cell? a = w.cell? a := by obtain ⟨m, e⟩ := HW.out; rw [e]; exact fun _ => rfl
      have hnx : ∀ q, ∃ m, wr.drewN q = w.drewN m := fun q => by obtain ⟨m, e⟩ := HW.out; exact ⟨m + q, by rw [e, World.drewN_drewN]⟩
      have HNX := Lib.hid hnx
      clear hnx
      by_cases hlt : k < n
      · have hkp : k < ps.length := by have := HL.out; have := HN.out; omega
        have hkq : k < qs.length := by have := HN.out; omega
        obtain ⟨p, hp⟩ : ∃ p, ps[k]? = some p := ⟨_, List.getElem?_eq_getElem hkp⟩
        obtain ⟨q, hq⟩ : ∃ q, qs[k]? = some q := ⟨_, List.getElem?_eq_getElem hkq⟩
        obtain ⟨g, rfl, hg⟩ := HA.out (by omega)
        obtain ⟨g', rfl, hg'⟩ := HB.out (by omega)
        have c1 : wr.cell? ⟨g, k, none⟩ = some (.string ⟨p.toArray⟩) := (hcl _).trans (hg.2 k p hp)
        have c2 : wr.cell? ⟨g', k, none⟩ = some (.string ⟨q.toArray⟩) := (hcl _).trans (hg'.2 k q hq)
        have hki : (k : Int) < (n : Int) := by omega
        by_cases he : p = q
        · have hcmp : (p == q) = true := by simpa using he
          have HN2 : Hid (∀ j p q, j < k + 1 → ps[j]? = some p → qs[j]? = some q → p = q) := fun j p' q' hj hp' hq' => by
            rcases Nat.lt_succ_iff_lt_or_eq.1 hj with h | rfl
            · exact hall.out j p' q' h hp' hq'
            · rw [hp] at hp'; rw [hq] at hq'; injection hp' with hp'; injection hq' with hq'; rw [← hp', ← hq', he]
          subst he
          clear hp hq hkp hkq hg hg' hcl
          go_wp2_with fail
          go_quiet (fail)
          go_wp2_with fail
          exact ⟨⟨k + 1, by omega, by go_num, HN2, HNX.out _⟩, by simp [intOf]; omega⟩
        · have hcmp : (p == q) = false := by simpa using he
          have hv : Hid (decide (ps = qs) = false) := decide_eq_false (fun e => by subst e; rw [hp] at hq; injection hq with hq; exact he hq)
          clear hp hq hkp hkq hg hg' hcl he
          go_wp2_with fail
          go_quiet (fail)
          go_wp2_with fail
          go_ret
          exact ⟨by rw [hv.out]; rfl, HNX.out _⟩
      · clear hcl
        have hv : Hid (decide (ps = qs) = true) := decide_eq_true (eq_at HL.out (fun j p q hj hp hq => hall.out j p q (by have := HL.out; have := HN.out; omega) hp hq))
        go_wp2_with fail
        go_ret
        exact ⟨by rw [hv.out]; rfl, HW.out⟩
  · have hv : Hid (decide (ps = qs) = false) := decide_eq_false (fun e => hl (by rw [e]))
    have hd : ((ps.length : Int) == (qs.length : Int)) = false := by simp; omega
    go_enter Tryd.func10, Tryd.ntmps10
    go_wp2_with fail
    go_ret
    exact ⟨by rw [hv.out]; rfl, 0, rfl⟩
end Go.Proofs.YtaaajmfbblbgiaaDoor

/- What Take and One answer of what Put wrote, and the other way round. No condition of its own. -/
import Derived.Test.YtekpdkjkkglcjaaDw
import Derived.Test.YtekpdkjkkglcjaaDo
import Derived.Test.YtekpdkjkkglcjaaDh
set_option linter.unusedVariables false
set_option linter.unusedSimpArgs false
set_option maxRecDepth 20000
namespace Go.Proofs.Ytekpdkjkkglcjaa
open Go.RowKit
theorem may_pair {t : Tm} (h : mayB t = true) : ∃ c, mayT t 1 0 = (true, c) := by
  rw [mayB] at h
  cases hT : mayT t 1 0 with
  | mk b c => rw [hT] at h; have hb : b = true := h; subst hb; exact ⟨c, rfl⟩
theorem put_of {t : Tm} (h : mayB t = true) : putT t = encT t := by rw [putT, if_pos h]
theorem enc_pos (t : Tm) : 0 < (encT t).length := by cases t; rw [encT]; simp
theorem take_put {t : Tm} (h : mayB t = true) (rest : List UInt8) : takeT (encT t ++ rest) = .ok (t, (encT t).length) := by
  obtain ⟨c, hc⟩ := may_pair h
  have := dec_enc t 1 0 c hc 16 rfl [] rest
  rw [List.nil_append] at this
  rw [takeT, show ([] : List UInt8).length = 0 from rfl, Nat.zero_add] at *
  rw [this]
theorem take_cut {t : Tm} (h : mayB t = true) (k : Nat) (hk : k < (encT t).length) : takeT ((encT t).take k) = .error 1 := by
  obtain ⟨c, hc⟩ := may_pair h
  have := dec_cut t 1 0 c hc 16 rfl [] k hk
  rw [List.nil_append] at this
  rw [takeT, show ([] : List UInt8).length = 0 from rfl] at *
  rw [this]
theorem one_put {t : Tm} (h : mayB t = true) : oneT (encT t) = .ok t := by
  have := take_put h []
  rw [List.append_nil] at this
  rw [oneT, this]
  simp
theorem one_more {t : Tm} (h : mayB t = true) (x : UInt8) : oneT (encT t ++ [x]) = .error 5 := by
  rw [oneT, take_put h [x]]
  simp
theorem take_ok_plain {l : List UInt8} {t : Tm} {q : Nat} (h : takeT l = .ok (t, q)) : mayB t = true ∧ q ≤ l.length ∧ l = encT t ++ l.drop q := by
  rw [takeT] at h
  cases hD : decT 16 l 0 0 with
  | error c => rw [hD] at h; cases h
  | ok r =>
    obtain ⟨u, q1, n1⟩ := r
    rw [hD] at h
    simp only at h
    injection h with h
    injection h with h1 h2
    subst h1 h2
    obtain ⟨a1, a2, a3⟩ := dec_ok 16 l 0 0 u q1 n1 hD
    refine ⟨?_, a2, a3⟩
    rw [mayB, show (1 : Int) = 17 - ((16 : Nat) : Int) by rfl, a1]
theorem one_ok_plain {l : List UInt8} {t : Tm} (h : oneT l = .ok t) : mayB t = true ∧ encT t = l := by
  rw [oneT] at h
  cases hT : takeT l with
  | error c => rw [hT] at h; cases h
  | ok r =>
    obtain ⟨u, q⟩ := r
    rw [hT] at h
    obtain ⟨a1, a2, a3⟩ := take_ok_plain hT
    simp only at h
    split at h
    · cases h
    · injection h with h
      subst h
      refine ⟨a1, ?_⟩
      rw [List.drop_eq_nil_of_le (by omega), List.append_nil] at a3
      exact a3.symm
theorem enc_inj {t u : Tm} (ht : mayB t = true) (hu : mayB u = true) (h : encT t = encT u) : t = u := by
  have h1 := one_put ht
  rw [h, one_put hu] at h1
  injection h1 with h1
  exact h1.symm
theorem enc_front {t u : Tm} (ht : mayB t = true) (hu : mayB u = true) (r : List UInt8) (h : encT u = encT t ++ r) : t = u := by
  have h1 := take_put ht r
  have h2 := take_put hu []
  rw [List.append_nil, h, h1] at h2
  injection h2 with h2
  injection h2
end Go.Proofs.Ytekpdkjkkglcjaa

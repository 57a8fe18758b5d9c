/- A text cut at its first sign: strings.Cut, countersignref6.Cut with a sign of one byte. No condition of its own. -/
import Derived.Test.YtolfcpbcccbmmaaGreatDoorSq
set_option linter.unusedVariables false
set_option linter.unusedSimpArgs false
set_option maxRecDepth 20000
namespace Go.Proofs.YtolfcpbcccbmmaaGreatDoor
open Go.RowKit
def cutP (c : UInt8) : List UInt8 → Option (List UInt8 × List UInt8)
  | [] => none
  | x :: r => if x = c then some ([], r) else (cutP c r).map fun p => (x :: p.1, p.2)
theorem cutP_at (c : UInt8) : ∀ (l : List UInt8) (m : Nat), l[m]? = some c → (∀ k, k < m → l[k]? ≠ some c) → cutP c l = some (l.take m, l.drop (m + 1))
  | [], m, h, _ => by simp at h
  | x :: l, 0, h, _ => by
    have hx : x = c := by simpa using h
    rw [cutP, if_pos hx]
    rfl
  | x :: l, m + 1, h, hk => by
    have hx : x ≠ c := by
      intro e
      exact hk 0 (by omega) (by simp [e])
    have ih := cutP_at c l m (by simpa using h) (fun k hkm => by have := hk (k + 1) (by omega); simpa using this)
    rw [cutP, if_neg hx, ih]
    rfl
theorem cutP_none (c : UInt8) : ∀ (l : List UInt8), (∀ k : Nat, l[k]? ≠ some c) → cutP c l = none
  | [], _ => rfl
  | x :: l, h => by
    have hx : x ≠ c := by
      intro e
      exact h 0 (by simp [e])
    rw [cutP, if_neg hx, cutP_none c l (fun k => by have := h (k + 1); simpa using this)]
    rfl
def cutA (l : List UInt8) (o : Option (List UInt8 × List UInt8)) : List UInt8 := match o with | some p => p.1 | none => l
def cutB (o : Option (List UInt8 × List UInt8)) : List UInt8 := match o with | some p => p.2 | none => []
def cutV (l : List UInt8) (o : Option (List UInt8 × List UInt8)) : Value := .tuple #[strV (cutA l o), strV (cutB o), .bool o.isSome]
set_option maxHeartbeats 2000000 in
theorem lcut_walk (s : ByteArray) (l : List UInt8) (hs : s.data.toList = l) (c : UInt8) (w : World) (hm : s.size ≤ 1000000) :
    Calls Tryz.prog 44 #[.string s, .string ⟨#[c]⟩] w fun e w' => e = .returned (cutV l (cutP c l)) ∧ ∃ n, w' = w.drewN n := by
  have hsz : l.length = s.size := by rw [← hs, Lib.size_eq]
  have ci := Lib.hid (Tryz.stringslite_Index_one s c w)
  rw [hs] at ci
  rcases Int.lt_or_le (Lib.indexByte l c) 0 with h0 | h0
  · have hge := Lib.indexByte_ge l c
    have h1 : Lib.indexByte l c = -1 := by omega
    have hn := Lib.indexByte_none h1
    have hv := Lib.hid (cutP_none c l hn)
    rw [h1] at ci
    have hst := Lib.hid (str_eta _ _ hs)
    clear h0 hge h1 hn
    go_enter Tryz.func44, Tryz.ntmps44
    go_wp2_with fail
    refine ci.out.mono ?_
    rintro _ w2 ⟨rfl, rfl⟩
    go_wp2_with fail
    go_ret3
    exact ⟨by rw [hv.out]; show _ = Ending.returned (.tuple #[.string ⟨l.toArray⟩, .string ⟨#[]⟩, .bool false]); rw [← hst.out]; rfl, 0, rfl⟩
  · obtain ⟨m, hm2⟩ := Int.eq_ofNat_of_zero_le h0
    obtain ⟨h1, h2⟩ := Lib.indexByte_some hm2
    have hml := (List.getElem?_eq_some_iff.1 h1).1
    have hv := Lib.hid (cutP_at c l m h1 h2)
    rw [hm2] at ci
    have hd1 : (s.extract 0 m).data.toList = l.take m := by rw [Lib.extract_data, hs]; simp
    have hd2 : (s.extract (m + 1) s.size).data.toList = l.drop (m + 1) := by rw [Lib.extract_to_end, hs]
    have hst1 := Lib.hid (str_eta _ _ hd1)
    have hst2 := Lib.hid (str_eta _ _ hd2)
    clear h0 hm2 h1 h2 hd1 hd2
    have b1 : m < s.size := by omega
    clear hml hsz
    go_enter Tryz.func44, Tryz.ntmps44
    go_wp2_with fail
    refine ci.out.mono ?_
    rintro _ w2 ⟨rfl, rfl⟩
    go_wp2_with fail
    go_quiet (fail)
    go_wp2_with fail
    go_ret3
    exact ⟨by rw [hv.out]; show _ = Ending.returned (.tuple #[.string ⟨(l.take m).toArray⟩, .string ⟨(l.drop (m + 1)).toArray⟩, .bool true]); rw [← hst1.out, ← hst2.out]; rfl, _, rfl⟩
theorem scut_walk (s : ByteArray) (l : List UInt8) (hs : s.data.toList = l) (c : UInt8) (w : World) (hm : s.size ≤ 1000000) :
    Calls Tryz.prog 25 #[.string s, .string ⟨#[c]⟩] w fun e w' => e = .returned (cutV l (cutP c l)) ∧ ∃ n, w' = w.drewN n := by
  have cc := Lib.hid (lcut_walk s l hs c w hm)
  generalize cutP c l = o at cc
  unfold cutV strV at cc ⊢
  clear hm hs
  go_enter Tryz.func25, Tryz.ntmps25
  go_wp2_with fail
  refine (cc.out).mono ?_
  rintro _ w1 ⟨rfl, q, rfl⟩
  go_wp2_with fail
  go_ret3
  exact ⟨rfl, q, rfl⟩
set_option maxHeartbeats 4000000 in
theorem rcut_walk (s : ByteArray) (l : List UInt8) (hs : s.data.toList = l) (c : UInt8) (w : World) (hm : s.size ≤ 1000000) :
    Calls Tryz.prog 23 #[.string s, .string ⟨#[c]⟩] w fun e w' => e = .returned (cutV l (cutP c l)) ∧ ∃ n, w' = w.drewN n := by
  have hsz : l.length = s.size := by rw [← hs, Lib.size_eq]
  go_enter Tryz.func23, Tryz.ntmps23
  go_wp2_with fail
  go_loopw [7] (fun iv wr => ∃ i : Nat, i ≤ s.size ∧ iv = .int .i64 i ∧ Hid (∀ k, k < i → l[k]? ≠ some c) ∧ w = wr) (fun iv _ => s.size - (intOf iv).toNat)
  case atStart => exact ⟨0, by omega, rfl, fun k hk => by omega, rfl⟩
  case round =>
    obtain ⟨i, his, rfl, hno, rfl⟩ := hrel
    by_cases hlt : i < s.size
    · obtain ⟨x, hx⟩ : ∃ x, l[i]? = some x := ⟨l[i]'(by omega), List.getElem?_eq_getElem (by omega)⟩
      have hone := one_str s l hs i x hx c
      by_cases hc : x = c
      · have hcd : ((s.extract i (i + 1)).toList == [c]) = true := by rw [hone]; simpa using hc
        subst hc
        have hv := Lib.hid (cutP_at x l i hx hno.out)
        have hd1 : (s.extract 0 i).data.toList = l.take i := by rw [Lib.extract_data, hs]; simp
        have hd2 : (s.extract (i + 1) s.size).data.toList = l.drop (i + 1) := by rw [Lib.extract_to_end, hs]
        have hst1 := Lib.hid (str_eta _ _ hd1)
        have hst2 := Lib.hid (str_eta _ _ hd2)
        clear hone hx hd1 hd2
        go_wp2_with fail
        go_quiet (fail)
        go_wp2_with fail
        go_ret3
        exact ⟨by rw [hv.out]; show _ = Ending.returned (.tuple #[.string ⟨(l.take i).toArray⟩, .string ⟨(l.drop (i + 1)).toArray⟩, .bool true]); rw [← hst1.out, ← hst2.out]; rfl, _, rfl⟩
      · have hcd : ((s.extract i (i + 1)).toList == [c]) = false := by rw [hone]; simpa using hc
        have HN : Hid (∀ k, k < i + 1 → l[k]? ≠ some c) := fun k hk he => by
          rcases Nat.lt_or_ge k i with h | h
          · exact hno.out k h he
          · rw [show k = i by omega, hx] at he
            injection he with he
            exact hc he
        clear hone hx hc
        go_wp2_with fail
        exact ⟨⟨i + 1, by omega, by go_num, HN, trivial⟩, by simp [intOf]; omega⟩
    · obtain rfl : i = s.size := by omega
      have hv := Lib.hid (cutP_none c l (fun k he => by
        have := (List.getElem?_eq_some_iff.1 he).1
        exact hno.out k (by omega) he))
      have hst := Lib.hid (str_eta _ _ hs)
      go_wp2_with fail
      go_ret3
      exact ⟨by rw [hv.out]; show _ = Ending.returned (.tuple #[.string ⟨l.toArray⟩, .string ⟨#[]⟩, .bool false]); rw [← hst.out]; rfl, 0, rfl⟩
end Go.Proofs.YtolfcpbcccbmmaaGreatDoor

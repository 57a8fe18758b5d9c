/- What json's print makes, in plain words: sizes; strings.Join over a row of texts; the laid table. No condition of its own. -/
import Derived.Test.YtieppmppdmcleaaGreatDoorJq
import Derived.Lib.ItoaLen
import Derived.Sort.Grow
set_option linter.unusedVariables false
set_option linter.unusedSimpArgs false
set_option maxRecDepth 20000
namespace Go.Proofs.YtieppmppdmcleaaGreatDoor
open Go.RowKit Go.Sort
mutual
/-- how much a value holds -/
def szJ : Jv → Nat
  | .mk _ _ _ s names kids => 1 + s.length + (names.map fun p => p.length + 1).sum + szJs kids
def szJs : List Jv → Nat
  | [] => 0
  | k :: ks => szJ k + szJs ks
end
theorem szJs_le : ∀ {ks : List Jv} {k : Jv}, k ∈ ks → szJ k ≤ szJs ks
  | [], k, h => by simp at h
  | x :: ks, k, h => by
    rw [szJs]
    rcases List.mem_cons.1 h with e | h
    · rw [e]; omega
    · have := szJs_le h; omega
theorem szJs_len : ∀ ks : List Jv, ks.length ≤ szJs ks
  | [] => by simp
  | .mk _ _ _ _ _ _ :: ks => by
    rw [szJs, List.length_cons, szJ]
    have := szJs_len ks
    omega
def lens1 (l : List (List UInt8)) : Nat := (l.map fun p => p.length + 1).sum
theorem jp_lens (l : List (List UInt8)) : (Lib.join l [44]).length ≤ lens1 l := by
  cases l with
  | nil => simp [Lib.join_nil]
  | cons x r =>
    rw [Lib.join_length]
    have : ∀ l : List (List UInt8), lens1 l = Lib.lens l + l.length := by
      intro l
      induction l with
      | nil => rfl
      | cons y t ih => simp only [lens1, List.map_cons, List.sum_cons] at ih ⊢; rw [ih]; simp [Lib.lens]; omega
    rw [this]
    simp
    omega
theorem quotedL_le (s : List UInt8) : (quotedL s).length ≤ 6 * s.length + 2 := by
  have := escL_le s
  simp only [escL] at this
  simp only [quotedL, List.length_cons, List.length_append, List.length_nil]
  omega
theorem names_head (names : List (List UInt8)) : (names.headD []).length + (names.tail.map fun p => p.length + 1).sum ≤ (names.map fun p => p.length + 1).sum := by
  cases names with
  | nil => simp
  | cons n r => simp <;> omega
mutual
theorem jprint_le : ∀ v : Jv, smJ v → (jprint v).length + 4 ≤ 28 * szJ v
  | .mk k b n s names kids, h => by
    rw [smJ] at h
    obtain ⟨_, hn, _, _, _, _, hk⟩ := h
    have h1 := jprintL_le kids hk
    have h2 := jprintO_le names kids hk
    have h3 := jp_lens (jprintL kids)
    have h4 := jp_lens (jprintO names kids)
    have h5 := quotedL_le s
    have h6 := Lib.itoa_length_le n hn.1 hn.2
    rw [jprint, szJ]
    split
    · simp only [List.length_cons, List.length_nil]; omega
    · split
      · cases b <;> simp <;> omega
      · split
        · omega
        · split
          · omega
          · split
            · simp only [List.length_cons, List.length_append, List.length_nil]; omega
            · simp only [List.length_cons, List.length_append, List.length_nil]; omega
theorem jprintL_le : ∀ ks : List Jv, smJs ks → lens1 (jprintL ks) ≤ 28 * szJs ks
  | [], _ => by simp [jprintL, lens1]
  | v :: vs, h => by
    rw [smJs] at h
    have h1 := jprint_le v h.1
    have h2 := jprintL_le vs h.2
    rw [jprintL, szJs]
    simp only [lens1, List.map_cons, List.sum_cons] at h2 ⊢
    omega
theorem jprintO_le : ∀ (names : List (List UInt8)) (ks : List Jv), smJs ks → lens1 (jprintO names ks) ≤ 28 * szJs ks + 6 * (names.map fun p => p.length + 1).sum
  | names, [], _ => by simp [jprintO, lens1]
  | names, v :: vs, h => by
    rw [smJs] at h
    have h1 := jprint_le v h.1
    have h2 := jprintO_le names.tail vs h.2
    have h3 := quotedL_le (names.headD [])
    have h4 := names_head names
    rw [jprintO, szJs]
    simp only [lens1, List.map_cons, List.sum_cons, List.length_append, List.length_cons] at h2 ⊢
    omega
end
def Tab (w : World) : Prop := Lib.TabIs Tryz.prog w "internal/strconv.uint64pow10" .u64 Lib.pow10Tab
theorem var_below {B g : Nat} {W W' : World} {n : String} {cs : Array Value} (h : Below B W W') (hg : Tryz.prog.globalNamed n = some g) (hgB : g < B) (hv : W.var? Tryz.prog n = some cs) : W'.var? Tryz.prog n = some cs := by
  simp only [World.var?, hg, Option.bind_some] at hv ⊢
  rw [h.block _ hgB]; exact hv
theorem tab_named : Tryz.prog.globalNamed "internal/strconv.uint64pow10" = some 5 := by kernel_rfl
theorem var_lt {g : Nat} {W : World} {n : String} {cs : Array Value} (hg : Tryz.prog.globalNamed n = some g) (hv : W.var? Tryz.prog n = some cs) : g < W.heap.size := by
  simp only [World.var?, hg, Option.bind_some] at hv
  rcases Nat.lt_or_ge g W.heap.size with h | h
  · exact h
  · rw [Array.getElem?_eq_none h] at hv; simp at hv
theorem Tab.below {w w' : World} (h : Tab w) (hb : Below w.heap.size w w') : Tab w' := var_below hb tab_named (var_lt tab_named h) h
theorem grow_below (w : World) (k : Nat) (os : Array Obj) : Below w.heap.size w (grow (w.drewN k) os) :=
  ⟨rfl, rfl, rfl, by simp [grow], fun j hj => by simp [grow, Array.getElem?_append, hj]⟩
theorem itoa_walk (n : Int) (h0 : -9223372036854775808 ≤ n) (h1 : n ≤ 9223372036854775807) (w : World) (ht : Tab w) :
    Calls Tryz.prog 118 #[.int .i64 n] w fun e w' => e = .returned (.string ⟨(Lib.itoa n).toArray⟩) ∧ Below w.heap.size w w' := by
  refine (Tryz.strconv_Itoa n h0 h1 w ht).mono ?_
  rintro _ w1 ⟨rfl, k, os, rfl⟩
  exact ⟨rfl, grow_below w k os⟩
theorem join_walk (A : Option Addr) (c B : Nat) (ps : List (List UInt8)) (w : World) (hr : Reads w B 1 A ps.length (strVs ps)) (hc : ps.length ≤ c) (hB : B ≤ w.heap.size) (hl : lens1 ps ≤ 100000000) :
    Calls Tryz.prog 51 #[.slice A ps.length c, .string ⟨#[44]⟩] w fun e w' => e = .returned (.string ⟨(Lib.join ps [44]).toArray⟩) ∧ Below w.heap.size w w' := by
  have hjl := jp_lens ps
  have hpl : ps.length ≤ lens1 ps := by
    clear hr hc hl hjl
    induction ps with
    | nil => simp
    | cons x r ih => simp only [lens1, List.map_cons, List.sum_cons, List.length_cons] at ih ⊢; omega
  by_cases h0 : ps.length = 0
  · have e1 : ps = [] := List.eq_nil_of_length_eq_zero h0
    subst e1
    refine (Tryz.strings_Join_none A c ⟨#[44]⟩ w).mono ?_
    rintro _ w1 ⟨rfl, rfl⟩
    exact ⟨rfl, Below.refl _ _⟩
  · obtain ⟨b1, o1, rfl, hb1, hc1⟩ := reads_spot hr (by omega)
    have hm : (mkS ps).map (·.data.toList) = ps := by simp [mkS, Function.comp_def]
    have hlen : (mkS ps).length = ps.length := by simp [mkS]
    have h := Tryz.strings_Join b1 o1 c (mkS ps) ⟨#[44]⟩ w (fun j x hx => hc1 j _ (by
      rw [mkS, List.getElem?_map] at hx
      rw [strVs, List.getElem?_map]
      cases hp : ps[j]? with
      | none => rw [hp] at hx; cases hx
      | some p => rw [hp] at hx; simp at hx; subst hx; rfl)) (by omega) (by rw [hlen]; omega) (by rw [hlen]; exact hc) (by rw [hm]; have : (⟨#[44]⟩ : ByteArray).data.toList = [44] := rfl; rw [this]; omega)
    rw [hm, hlen] at h
    exact h
theorem jprintL_get : ∀ (ks : List Jv) (i : Nat) (k : Jv), ks[i]? = some k → (jprintL ks)[i]? = some (jprint k)
  | [], i, k, h => by simp at h
  | v :: vs, 0, k, h => by simp at h; subst h; rw [jprintL]; rfl
  | v :: vs, i + 1, k, h => by rw [jprintL]; simp at h ⊢; exact jprintL_get vs i k h
theorem jprintO_get : ∀ (names : List (List UInt8)) (ks : List Jv) (i : Nat) (n : List UInt8) (k : Jv), names[i]? = some n → ks[i]? = some k → (jprintO names ks)[i]? = some (quotedL n ++ 58 :: jprint k)
  | names, [], i, n, k, _, h => by simp at h
  | [], v :: vs, i, n, k, h, _ => by simp at h
  | m :: ms, v :: vs, 0, n, k, h1, h2 => by simp at h1 h2; subst h1 h2; rw [jprintO]; rfl
  | m :: ms, v :: vs, i + 1, n, k, h1, h2 => by rw [jprintO]; simp at h1 h2 ⊢; exact jprintO_get ms vs i n k h1 h2
theorem jprintL_len : ∀ ks : List Jv, (jprintL ks).length = ks.length
  | [] => by rw [jprintL]; rfl
  | v :: vs => by rw [jprintL, List.length_cons, List.length_cons, jprintL_len vs]
theorem jprintO_len : ∀ (names : List (List UInt8)) (ks : List Jv), (jprintO names ks).length = ks.length
  | names, [] => by rw [jprintO]; rfl
  | names, v :: vs => by rw [jprintO, List.length_cons, List.length_cons, jprintO_len names.tail vs]
theorem formatL (b : Bool) : Lib.formatBool b = if b then [116, 114, 117, 101] else [102, 97, 108, 115, 101] := by cases b <;> decide +kernel
end Go.Proofs.YtieppmppdmcleaaGreatDoor

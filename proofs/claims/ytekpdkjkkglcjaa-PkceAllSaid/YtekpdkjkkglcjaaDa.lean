/- Terms: their values in memory, their bytes, and what bytes say. No condition of its own. -/
import Derived.Test.YtekpdkjkkglcjaaKit
set_option linter.unusedVariables false
set_option linter.unusedSimpArgs false
set_option maxRecDepth 20000
namespace Go.Proofs.Ytekpdkjkkglcjaa
open Go.RowKit
theorem below_next {w0 w1 w2 : World} (h : Below w0.heap.size w0 w1) (k : Below w1.heap.size w1 w2) : Below w0.heap.size w0 w2 := h.trans (k.mono h.size)
inductive Tm where
  | mk (kind n : Int) (s : ByteArray) (kids : List Tm)
def Tm.kind : Tm → Int | .mk k _ _ _ => k
def Tm.num : Tm → Int | .mk _ n _ _ => n
def Tm.str : Tm → ByteArray | .mk _ _ s _ => s
def Tm.kids : Tm → List Tm | .mk _ _ _ k => k
def cells4 (kind n : Int) (s : ByteArray) (A : Option Addr) (m c : Nat) : List Value := [.int .i64 kind, .int .i64 n, .string s, .slice A m c]
mutual
/-- four cells read as a term; all its rows lie from block lo on -/
def TmV (w : World) (lo : Nat) : Tm → List Value → Prop
  | .mk kind n s kids, cs => ∃ A c vs, cs = cells4 kind n s A kids.length c ∧ kids.length ≤ c ∧ c ≤ 9223372036854775807 ∧ Reads w w.heap.size 4 A kids.length (List.flatten vs) ∧ (0 < kids.length → ∀ ad, A = some ad → lo ≤ ad.block) ∧ TmsV w lo kids vs
def TmsV (w : World) (lo : Nat) : List Tm → List (List Value) → Prop
  | [], vs => vs = []
  | k :: ks, vs => ∃ v vs', vs = v :: vs' ∧ TmV w lo k v ∧ TmsV w lo ks vs'
end
theorem TmV.len {w : World} {lo : Nat} {t : Tm} {cs : List Value} (h : TmV w lo t cs) : cs.length = 4 := by
  cases t
  rw [TmV] at h
  obtain ⟨A, c, vs, rfl, _⟩ := h
  rfl
mutual
theorem TmV.keep {w w' : World} {lo lo' : Nat} (hk : ∀ p : Addr, p.block < w.heap.size → lo ≤ p.block → w'.cell? p = w.cell? p) (hg : lo' ≤ lo) (hs : w.heap.size ≤ w'.heap.size) :
    ∀ (t : Tm) (cs : List Value), TmV w lo t cs → TmV w' lo' t cs
  | .mk kind n s kids, cs, h => by
    rw [TmV] at h ⊢
    obtain ⟨A, c, vs, h1, h2, h3, h4, h5, h6⟩ := h
    refine ⟨A, c, vs, h1, h2, h3, ⟨h4.1, fun h0 => ?_⟩, fun h0 ad e => by have := h5 h0 ad e; omega, TmsV.keep hk hg hs kids vs h6⟩
    obtain ⟨ad, e, hl, hc⟩ := h4.2 h0
    exact ⟨ad, e, by omega, fun j u hu => (hk _ (by rw [block_of_add]; exact hl) (by rw [block_of_add]; exact h5 h0 ad e)).trans (hc j u hu)⟩
theorem TmsV.keep {w w' : World} {lo lo' : Nat} (hk : ∀ p : Addr, p.block < w.heap.size → lo ≤ p.block → w'.cell? p = w.cell? p) (hg : lo' ≤ lo) (hs : w.heap.size ≤ w'.heap.size) :
    ∀ (ts : List Tm) (vs : List (List Value)), TmsV w lo ts vs → TmsV w' lo' ts vs
  | [], vs, h => by rw [TmsV] at h ⊢; exact h
  | k :: ks, vs, h => by
    rw [TmsV] at h ⊢
    obtain ⟨v, vs', h1, h2, h3⟩ := h
    exact ⟨v, vs', h1, TmV.keep hk hg hs k v h2, TmsV.keep hk hg hs ks vs' h3⟩
end
section
variable {w w' : World} {lo lo' : Nat} {t : Tm} {cs : List Value} {ts : List Tm} {vs : List (List Value)} {row : Option Nat}
theorem TmV.below (h : TmV w lo t cs) (hb : Below w.heap.size w w') : TmV w' lo t cs := TmV.keep (fun p hp _ => hb.cell hp) (Nat.le_refl _) hb.size t cs h
theorem TmV.grown (h : TmV w lo t cs) (hb : w.grownBy w' row) (hr : ∀ q, row = some q → q < lo) : TmV w' lo t cs :=
  TmV.keep (fun p hp hne => World.cell?_of_block (hb.block _ hp (fun e => by have := hr _ e.symm; omega))) (Nat.le_refl _) hb.size t cs h
theorem TmV.low (h : TmV w lo t cs) (hl : lo' ≤ lo) : TmV w lo' t cs := TmV.keep (fun p _ _ => rfl) hl (Nat.le_refl _) t cs h
theorem TmsV.below (h : TmsV w lo ts vs) (hb : Below w.heap.size w w') : TmsV w' lo ts vs := TmsV.keep (fun p hp _ => hb.cell hp) (Nat.le_refl _) hb.size ts vs h
theorem TmsV.grown (h : TmsV w lo ts vs) (hb : w.grownBy w' row) (hr : ∀ q, row = some q → q < lo) : TmsV w' lo ts vs :=
  TmsV.keep (fun p hp hne => World.cell?_of_block (hb.block _ hp (fun e => by have := hr _ e.symm; omega))) (Nat.le_refl _) hb.size ts vs h
theorem TmsV.low (h : TmsV w lo ts vs) (hl : lo' ≤ lo) : TmsV w lo' ts vs := TmsV.keep (fun p _ _ => rfl) hl (Nat.le_refl _) ts vs h
end
theorem TmsV.length {w : World} {lo : Nat} : ∀ {ts : List Tm} {vs : List (List Value)}, TmsV w lo ts vs → vs.length = ts.length
  | [], vs, h => by rw [TmsV] at h; rw [h]; rfl
  | k :: ks, vs, h => by
    rw [TmsV] at h
    obtain ⟨v, vs', rfl, _, h3⟩ := h
    rw [List.length_cons, List.length_cons, TmsV.length h3]
theorem TmsV.get {w : World} {lo : Nat} : ∀ {ts : List Tm} {vs : List (List Value)}, TmsV w lo ts vs → ∀ {i : Nat} {k : Tm}, ts[i]? = some k → ∃ v, vs[i]? = some v ∧ TmV w lo k v
  | [], vs, _, i, k, e => by simp at e
  | k :: ks, vs, h, i, x, e => by
    rw [TmsV] at h
    obtain ⟨v, vs', rfl, h2, h3⟩ := h
    cases i with
    | zero => simp at e; subst e; exact ⟨v, rfl, h2⟩
    | succ i => rw [List.getElem?_cons_succ] at e ⊢; exact TmsV.get h3 e
theorem TmsV.snoc {w : World} {lo : Nat} {k : Tm} {v : List Value} (hv : TmV w lo k v) : ∀ {ts : List Tm} {vs : List (List Value)}, TmsV w lo ts vs → TmsV w lo (ts ++ [k]) (vs ++ [v])
  | [], vs, h => by
    rw [TmsV] at h
    subst h
    rw [List.nil_append, List.nil_append, TmsV]
    exact ⟨v, [], rfl, hv, by rw [TmsV]⟩
  | k' :: ks, vs, h => by
    rw [TmsV] at h
    obtain ⟨v', vs', rfl, h2, h3⟩ := h
    rw [List.cons_append, TmsV]
    exact ⟨v', vs' ++ [v], rfl, h2, TmsV.snoc hv h3⟩
theorem flat4 {w : World} {lo : Nat} : ∀ {ts : List Tm} {vs : List (List Value)}, TmsV w lo ts vs → ∀ {i : Nat} {v : List Value}, vs[i]? = some v → ∀ j u, v[j]? = some u → vs.flatten[i * 4 + j]? = some u
  | [], vs, h, i, v, e, j, u, hu => by rw [TmsV] at h; subst h; simp at e
  | k :: ks, vs, h, i, v, e, j, u, hu => by
    rw [TmsV] at h
    obtain ⟨v', vs', rfl, h2, h3⟩ := h
    have hl := h2.len
    rw [List.flatten_cons]
    cases i with
    | zero =>
      simp at e
      subst e
      rw [Nat.zero_mul, Nat.zero_add, List.getElem?_append_left (List.getElem?_eq_some_iff.1 hu).1]
      exact hu
    | succ i =>
      rw [List.getElem?_cons_succ] at e
      rw [List.getElem?_append_right (by omega), show (i + 1) * 4 + j - v'.length = i * 4 + j by omega]
      exact flat4 h3 e j u hu
/-- a kid's cells -/
theorem kid_at {w : World} {lo : Nat} {A : Option Addr} {ts : List Tm} {vs : List (List Value)} (h : TmsV w lo ts vs) (hr : Reads w w.heap.size 4 A ts.length vs.flatten) {i : Nat} {k : Tm} (hk : ts[i]? = some k) :
    ∃ ad v, A = some ad ∧ TmV w lo k v ∧ ∀ j u, v[j]? = some u → w.cell? ((ad.add (i * 4)).add j) = some u := by
  have hi := (List.getElem?_eq_some_iff.1 hk).1
  obtain ⟨ad, e, _, hc⟩ := hr.2 (by omega)
  obtain ⟨v, hv, ht⟩ := h.get hk
  exact ⟨ad, v, e, ht, fun j u hu => by rw [add_of_add]; exact hc _ _ (flat4 h hv j u hu)⟩
/-! what bytes say -/
def beN : List UInt8 → Nat := fun l => l.foldl (fun v b => v * 256 + b.toNat) 0
def numT (l : List UInt8) (at_ n : Nat) (most : Nat) : Except Int (Nat × Nat) :=
  if l.length < at_ + n then .error 1 else
  if most < beN ((l.drop at_).take n) then .error 3 else .ok (beN ((l.drop at_).take n), at_ + n)
def atomT (l : List UInt8) (p : Nat) : Except Int (ByteArray × Nat) :=
  match numT l p 2 1024 with
  | .error e => .error e
  | .ok (m, q) => if l.length < q + m then .error 1 else .ok (⟨((l.drop q).take m).toArray⟩, q + m)
mutual
/-- the term that stands at a place, d levels deep at most, n nodes behind: the term, the place behind it, the nodes behind it -/
def decT : Nat → List UInt8 → Nat → Nat → Except Int (Tm × Nat × Nat)
  | 0, _, _, _ => .error 4
  | d + 1, l, p, n =>
    if 64 < n + 1 then .error 4 else
    match l[p]? with
    | none => .error 1
    | some k =>
      if k.toNat = 1 then
        match atomT l (p + 1) with
        | .error e => .error e
        | .ok (s, q) => .ok (.mk 1 0 s [], q, n + 1)
      else if k.toNat = 2 then
        match numT l (p + 1) 4 1073741824 with
        | .error e => .error e
        | .ok (m, q) => .ok (.mk 2 m ⟨#[]⟩ [], q, n + 1)
      else if k.toNat = 3 ∨ k.toNat = 4 then
        match decK 1 d l (p + 1) (n + 1) with
        | .error e => .error e
        | .ok (ks, q, n') => .ok (.mk k.toNat 0 ⟨#[]⟩ ks, q, n')
      else if k.toNat = 5 ∨ k.toNat = 6 ∨ k.toNat = 7 then
        match decK 2 d l (p + 1) (n + 1) with
        | .error e => .error e
        | .ok (ks, q, n') => .ok (.mk k.toNat 0 ⟨#[]⟩ ks, q, n')
      else .error 2
  termination_by d => (d, 0)
def decK : Nat → Nat → List UInt8 → Nat → Nat → Except Int (List Tm × Nat × Nat)
  | 0, _, _, p, n => .ok ([], p, n)
  | m + 1, d, l, p, n =>
    match decT d l p n with
    | .error e => .error e
    | .ok (t, q, n') =>
      match decK m d l q n' with
      | .error e => .error e
      | .ok (ts, q', n'') => .ok (t :: ts, q', n'')
  termination_by m d => (d, m + 1)
end
end Go.Proofs.Ytekpdkjkkglcjaa

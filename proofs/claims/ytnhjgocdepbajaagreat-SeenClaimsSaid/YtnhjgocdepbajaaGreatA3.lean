/- JSON values in memory: six cells each, a row of names, a row of kids; all rows from some block on. No condition of its own. -/
import Derived.Test.YtnhjgocdepbajaaGreatA2
import Derived.Test.YtnhjgocdepbajaaGreatA1
import Derived.Deep.RegionHeld3
import Derived.Lib.Join
import Derived.Lib.ItoaNum
set_option linter.unusedVariables false
set_option linter.unusedSimpArgs false
set_option maxRecDepth 20000
namespace Go.Proofs.YtnhjgocdepbajaaGreat
open Go.RowKit
inductive Jv where
 | mk (kind : Int) (b : Bool) (n : Int) (s : List UInt8) (names : List (List UInt8)) (kids : List Jv)
def Jv.kind : Jv → Int | .mk k _ _ _ _ _ => k
def Jv.flag : Jv → Bool | .mk _ b _ _ _ _ => b
def Jv.num : Jv → Int | .mk _ _ n _ _ _ => n
def Jv.str : Jv → List UInt8 | .mk _ _ _ s _ _ => s
def Jv.names : Jv → List (List UInt8) | .mk _ _ _ _ l _ => l
def Jv.kids : Jv → List Jv | .mk _ _ _ _ _ l => l
def jvZ : Jv := .mk 0 false 0 [] [] []
instance : Inhabited Jv := ⟨jvZ⟩
def cells6 (kind : Int) (b : Bool) (n : Int) (s : List UInt8) (NA : Option Addr) (nn nc : Nat) (A : Option Addr) (m c : Nat) : List Value := [.int .i64 kind, .bool b, .int .i64 n, strV s, .slice NA nn nc, .slice A m c]
mutual
def JvV (w : World) (lo : Nat) : Jv → List Value → Prop
 | .mk kind b n s names kids, cs => ∃ NA nc A c vs, cs = cells6 kind b n s NA names.length nc A kids.length c ∧ (names.length ≤ nc ∧ nc ≤ 9223372036854775807) ∧ (kids.length ≤ c ∧ c ≤ 9223372036854775807) ∧ Reads w w.heap.size 1 NA names.length (strVs names) ∧ (0 < names.length → ∀ ad, NA = some ad → lo ≤ ad.block) ∧ Reads w w.heap.size 6 A kids.length (List.flatten vs) ∧ (0 < kids.length → ∀ ad, A = some ad → lo ≤ ad.block) ∧ JvsV w lo kids vs
def JvsV (w : World) (lo : Nat) : List Jv → List (List Value) → Prop
 | [], vs => vs = []
 | k :: ks, vs => ∃ v vs', vs = v :: vs' ∧ JvV w lo k v ∧ JvsV w lo ks vs'
end
theorem JvV.len {w : World} {lo : Nat} {t : Jv} {cs : List Value} (h : JvV w lo t cs) : cs.length = 6 := by
 cases t
 rw [JvV] at h
 obtain ⟨NA, nc, A, c, vs, rfl, _⟩ := h
 rfl
theorem reads_keep {w w' : World} {lo size n : Nat} {A : Option Addr} {xs : List Value} (hk : ∀ p : Addr, p.block < w.heap.size → lo ≤ p.block → w'.cell? p = w.cell? p) (hs : w.heap.size ≤ w'.heap.size) (h : Reads w w.heap.size size A n xs) (hl : 0 < n → ∀ ad, A = some ad → lo ≤ ad.block) : Reads w' w'.heap.size size A n xs := by
 refine ⟨h.1, fun h0 => ?_⟩
 obtain ⟨ad, e, hb, hc⟩ := h.2 h0
 exact ⟨ad, e, by omega, fun j u hu => (hk _ (by rw [block_of_add]; exact hb) (by rw [block_of_add]; exact hl h0 ad e)).trans (hc j u hu)⟩
mutual
theorem JvV.keep {w w' : World} {lo lo' : Nat} (hk : ∀ p : Addr, p.block < w.heap.size → lo ≤ p.block → w'.cell? p = w.cell? p) (hg : lo' ≤ lo) (hs : w.heap.size ≤ w'.heap.size) :
  ∀ (t : Jv) (cs : List Value), JvV w lo t cs → JvV w' lo' t cs
 | .mk kind b n s names kids, cs, h => by
  rw [JvV] at h ⊢
  obtain ⟨NA, nc, A, c, vs, h1, h2, h3, h4, h5, h6, h7, h8⟩ := h
  exact ⟨NA, nc, A, c, vs, h1, h2, h3, reads_keep hk hs h4 h5, fun h0 ad e => by have := h5 h0 ad e; omega, reads_keep hk hs h6 h7, fun h0 ad e => by have := h7 h0 ad e; omega, JvsV.keep hk hg hs kids vs h8⟩
theorem JvsV.keep {w w' : World} {lo lo' : Nat} (hk : ∀ p : Addr, p.block < w.heap.size → lo ≤ p.block → w'.cell? p = w.cell? p) (hg : lo' ≤ lo) (hs : w.heap.size ≤ w'.heap.size) :
  ∀ (ts : List Jv) (vs : List (List Value)), JvsV w lo ts vs → JvsV w' lo' ts vs
 | [], vs, h => by rw [JvsV] at h ⊢; exact h
 | k :: ks, vs, h => by
  rw [JvsV] at h ⊢
  obtain ⟨v, vs', h1, h2, h3⟩ := h
  exact ⟨v, vs', h1, JvV.keep hk hg hs k v h2, JvsV.keep hk hg hs ks vs' h3⟩
end
section
variable {w w' : World} {lo lo' : Nat} {t : Jv} {cs : List Value} {ts : List Jv} {vs : List (List Value)} {row : Option Nat}
theorem JvV.below (h : JvV w lo t cs) (hb : Below w.heap.size w w') : JvV w' lo t cs := JvV.keep (fun p hp _ => hb.cell hp) (Nat.le_refl _) hb.size t cs h
theorem JvV.grown (h : JvV w lo t cs) (hb : w.grownBy w' row) (hr : ∀ q, row = some q → q < lo) : JvV w' lo t cs :=
 JvV.keep (fun p hp hne => World.cell?_of_block (hb.block _ hp (fun e => by have := hr _ e.symm; omega))) (Nat.le_refl _) hb.size t cs h
theorem JvV.low (h : JvV w lo t cs) (hl : lo' ≤ lo) : JvV w lo' t cs := JvV.keep (fun p _ _ => rfl) hl (Nat.le_refl _) t cs h
theorem JvsV.below (h : JvsV w lo ts vs) (hb : Below w.heap.size w w') : JvsV w' lo ts vs := JvsV.keep (fun p hp _ => hb.cell hp) (Nat.le_refl _) hb.size ts vs h
theorem JvsV.grown (h : JvsV w lo ts vs) (hb : w.grownBy w' row) (hr : ∀ q, row = some q → q < lo) : JvsV w' lo ts vs :=
 JvsV.keep (fun p hp hne => World.cell?_of_block (hb.block _ hp (fun e => by have := hr _ e.symm; omega))) (Nat.le_refl _) hb.size ts vs h
theorem JvsV.low (h : JvsV w lo ts vs) (hl : lo' ≤ lo) : JvsV w lo' ts vs := JvsV.keep (fun p _ _ => rfl) hl (Nat.le_refl _) ts vs h
end
theorem JvsV.length {w : World} {lo : Nat} : ∀ {ts : List Jv} {vs : List (List Value)}, JvsV w lo ts vs → vs.length = ts.length
 | [], vs, h => by rw [JvsV] at h; rw [h]; rfl
 | k :: ks, vs, h => by
  rw [JvsV] at h
  obtain ⟨v, vs', rfl, _, h3⟩ := h
  rw [List.length_cons, List.length_cons, JvsV.length h3]
theorem JvsV.get {w : World} {lo : Nat} : ∀ {ts : List Jv} {vs : List (List Value)}, JvsV w lo ts vs → ∀ {i : Nat} {k : Jv}, ts[i]? = some k → ∃ v, vs[i]? = some v ∧ JvV w lo k v
 | [], vs, _, i, k, e => by simp at e
 | k :: ks, vs, h, i, x, e => by
  rw [JvsV] at h
  obtain ⟨v, vs', rfl, h2, h3⟩ := h
  cases i with
  | zero => simp at e; subst e; exact ⟨v, rfl, h2⟩
  | succ i => rw [List.getElem?_cons_succ] at e ⊢; exact JvsV.get h3 e
theorem JvsV.snoc {w : World} {lo : Nat} {k : Jv} {v : List Value} (hv : JvV w lo k v) : ∀ {ts : List Jv} {vs : List (List Value)}, JvsV w lo ts vs → JvsV w lo (ts ++ [k]) (vs ++ [v])
 | [], vs, h => by
  rw [JvsV] at h
  subst h
  rw [List.nil_append, List.nil_append, JvsV]
  exact ⟨v, [], rfl, hv, by rw [JvsV]⟩
 | k' :: ks, vs, h => by
  rw [JvsV] at h
  obtain ⟨v', vs', rfl, h2, h3⟩ := h
  rw [List.cons_append, JvsV]
  exact ⟨v', vs' ++ [v], rfl, h2, JvsV.snoc hv h3⟩
theorem flat6 {w : World} {lo : Nat} : ∀ {ts : List Jv} {vs : List (List Value)}, JvsV w lo ts vs → ∀ {i : Nat} {v : List Value}, vs[i]? = some v → ∀ j u, v[j]? = some u → vs.flatten[i * 6 + j]? = some u
 | [], vs, h, i, v, e, j, u, hu => by rw [JvsV] at h; subst h; simp at e
 | k :: ks, vs, h, i, v, e, j, u, hu => by
  rw [JvsV] at h
  obtain ⟨v', vs', rfl, h2, h3⟩ := h
  have hl := h2.len
  rw [List.flatten_cons]
  cases i with
  | zero =>
   simp at e
   subst e
   rw [Nat.zero_mul, Nat.zero_add, List.getElem?_append_left (List.getElem?_eq_some_iff.1 hu).1]
   exact hu
  | succ i =>
   rw [List.getElem?_cons_succ] at e
   rw [List.getElem?_append_right (by omega), show (i + 1) * 6 + j - v'.length = i * 6 + j by omega]
   exact flat6 h3 e j u hu
theorem jkid_at {w : World} {lo : Nat} {A : Option Addr} {ts : List Jv} {vs : List (List Value)} (h : JvsV w lo ts vs) (hr : Reads w w.heap.size 6 A ts.length vs.flatten) {i : Nat} {k : Jv} (hk : ts[i]? = some k) :
  ∃ ad v, A = some ad ∧ JvV w lo k v ∧ ∀ j u, v[j]? = some u → w.cell? ((ad.add (i * 6)).add j) = some u := by
 have hi := (List.getElem?_eq_some_iff.1 hk).1
 obtain ⟨ad, e, _, hc⟩ := hr.2 (by omega)
 obtain ⟨v, hv, ht⟩ := h.get hk
 exact ⟨ad, v, e, ht, fun j u hu => by rw [add_of_add]; exact hc _ _ (flat6 h hv j u hu)⟩
theorem jv_leaf (w : World) (lo : Nat) (kind : Int) (b : Bool) (n : Int) (s : List UInt8) : JvV w lo (.mk kind b n s [] []) (cells6 kind b n s none 0 0 none 0 0) := by
 rw [JvV]
 exact ⟨none, 0, none, 0, [], rfl, ⟨Nat.le_refl _, by omega⟩, ⟨Nat.le_refl _, by omega⟩, Reads.none_, fun h => absurd h (by simp), Reads.none_, fun h => absurd h (by simp), by rw [JvsV]⟩
end Go.Proofs.YtnhjgocdepbajaaGreat
/- JSON values: loads and stores of whole values. No condition of its own. -/
set_option linter.unusedVariables false
set_option linter.unusedSimpArgs false
set_option maxRecDepth 20000
namespace Go.Proofs.YtnhjgocdepbajaaGreat
open Go.RowKit
theorem jv_size : (Tryz.prog.info? 48).map (·.size) = some 6 := by kernel_rfl
theorem info_jv : (Tryz.prog.info? 48).map (fun i => (i.zero, i.size, i.bytes)) = some (some (.agg (cells6 0 false 0 [] none 0 0 none 0 0).toArray), 6, 88) := by kernel_rfl
end Go.Proofs.YtnhjgocdepbajaaGreat
/- Same of both, over values in memory. No condition of its own. -/
set_option linter.unusedVariables false
set_option linter.unusedSimpArgs false
set_option maxRecDepth 20000
namespace Go.Proofs.YtnhjgocdepbajaaGreat
open Go.RowKit
theorem below_next {w0 w1 w2 : World} (h : Below w0.heap.size w0 w1) (k : Below w1.heap.size w1 w2) : Below w0.heap.size w0 w2 := h.trans (k.mono h.size)
theorem dnN {B : Nat} {a w : World} (h : Below B a w) (n : Nat) : Below B a (w.drewN n) := h.trans ⟨rfl, rfl, rfl, Nat.le_refl _, fun _ _ => rfl⟩
theorem eq_strL (p q : List UInt8) : ((⟨p.toArray⟩ : ByteArray).toList == (⟨q.toArray⟩ : ByteArray).toList) = decide (p = q) := by
 rw [ByteArray.toList_eq, ByteArray.toList_eq, Bool.eq_iff_iff]; simp
mutual
def sameJ : Jv → Jv → Bool
 | .mk k b n s names kids, .mk k' b' n' s' names' kids' => (k == k') && (b == b') && (n == n') && decide (s = s') && decide (names = names') && sameJs kids kids'
def sameJs : List Jv → List Jv → Bool
 | [], [] => true
 | a :: xs, b :: ys => sameJ a b && sameJs xs ys
 | _, _ => false
end
mutual
theorem sameJ_iff : ∀ a b : Jv, sameJ a b = true ↔ a = b
 | .mk k b n s names kids, .mk k' b' n' s' names' kids' => by
  rw [sameJ]
  simp only [Bool.and_eq_true, decide_eq_true_eq, beq_iff_eq, sameJs_iff kids kids', Jv.mk.injEq]
  constructor
  ·
   rintro ⟨⟨⟨⟨⟨h1, h2⟩, h3⟩, h4⟩, h5⟩, h6⟩; exact ⟨h1, h2, h3, h4, h5, h6⟩
  ·
   rintro ⟨h1, h2, h3, h4, h5, h6⟩; exact ⟨⟨⟨⟨⟨h1, h2⟩, h3⟩, h4⟩, h5⟩, h6⟩
theorem sameJs_iff : ∀ xs ys : List Jv, sameJs xs ys = true ↔ xs = ys
 | [], [] => by simp [sameJs]
 | a :: xs, b :: ys => by
  rw [sameJs, Bool.and_eq_true, sameJ_iff a b, sameJs_iff xs ys, List.cons.injEq]
 | [], b :: ys => by simp [sameJs]
 | a :: xs, [] => by simp [sameJs]
end
theorem sameJs_len {xs ys : List Jv} (h : xs.length ≠ ys.length) : sameJs xs ys = false := by
 rw [Bool.eq_false_iff, ne_eq, sameJs_iff]
 intro e; exact h (by rw [e])
theorem sameJs_cons (a b : Jv) (xs ys : List Jv) : sameJs (a :: xs) (b :: ys) = (sameJ a b && sameJs xs ys) := by rw [sameJs]
theorem JvV.form {w : World} {lo : Nat} {t : Jv} {cs : List Value} (h : JvV w lo t cs) : ∃ (kd : Int) (b : Bool) (nm : Int) (s : ByteArray) (NA : Option Addr) (nn nc : Nat) (A : Option Addr) (m cp : Nat), cs = [.int .i64 kd, .bool b, .int .i64 nm, .string s, .slice NA nn nc, .slice A m cp] := by
 cases t
 rw [JvV] at h
 obtain ⟨NA, nc, A, c, vs, rfl, _⟩ := h
 exact ⟨_, _, _, _, _, _, _, _, _, _, rfl⟩
def SameOk (F : FuncId) (a : Jv) : Prop := ∀ (b : Jv) (cs ds : List Value) (w : World), JvV w 0 a cs → JvV w 0 b ds →
 Calls Tryz.prog F #[.agg cs.toArray, .agg ds.toArray] w fun e w' => e = .returned (.bool (sameJ a b)) ∧ Below w.heap.size w w'
end Go.Proofs.YtnhjgocdepbajaaGreat
/- JSON, plain: which values may be, how they are written. No condition of its own. -/
set_option linter.unusedVariables false
set_option linter.unusedSimpArgs false
set_option maxRecDepth 20000
namespace Go.Proofs.YtnhjgocdepbajaaGreat
open Go.RowKit
def aloneB (ok : List UInt8 → Bool) : Jv → Bool
 | .mk k b n s names kids =>
  decide (1 ≤ k ∧ k ≤ 6) && (!b || decide (k = 2)) && (decide (n = 0) || decide (k = 3)) && decide (-9007199254740992 ≤ n ∧ n ≤ 9007199254740992) && (s.isEmpty || decide (k = 4)) && ok s &&
  (kids.isEmpty || decide (k = 5 ∨ k = 6)) && (names.isEmpty || decide (k = 6)) && (!decide (k = 6) || (names.all ok && decide names.Nodup && decide (names.length = kids.length)))
mutual
def mayJ (ok : List UInt8 → Bool) : Jv → Nat → Bool
 | .mk k b n s names kids, deep => aloneB ok (.mk k b n s names kids) && (!decide (k = 5 ∨ k = 6) || (decide (deep < 8) && mayJs ok kids (deep + 1)))
def mayJs (ok : List UInt8 → Bool) : List Jv → Nat → Bool
 | [], _ => true
 | v :: vs, deep => mayJ ok v deep && mayJs ok vs deep
end
end Go.Proofs.YtnhjgocdepbajaaGreat

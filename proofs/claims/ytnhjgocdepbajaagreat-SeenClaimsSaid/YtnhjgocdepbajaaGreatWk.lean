/- Marks: code.Put, countersignref2.Put and reading. No condition of its own. -/
import Derived.Test.YtnhjgocdepbajaaGreatA1
import Derived.Deep.RegionHeld3
import Derived.Laws.EntriesVeiled
set_option linter.unusedVariables false
set_option linter.unusedSimpArgs false
set_option maxRecDepth 20000
set_option maxHeartbeats 4000000
namespace Go.Proofs.YtnhjgocdepbajaaGreat
namespace K9
section
open Go.RowKit
theorem below_next {w0 w1 w2 : World} (h : Below w0.heap.size w0 w1) (k : Below w1.heap.size w1 w2) : Below w0.heap.size w0 w2 := h.trans (k.mono h.size)
inductive Tm where
 | mk (kind n : Int) (s : ByteArray) (kids : List Tm)
def Tm.kind : Tm → Int | .mk k _ _ _ => k
def Tm.num : Tm → Int | .mk _ n _ _ => n
def Tm.str : Tm → ByteArray | .mk _ _ s _ => s
def Tm.kids : Tm → List Tm | .mk _ _ _ k => k
def cells4 (kind n : Int) (s : ByteArray) (A : Option Addr) (m c : Nat) : List Value := [.int .i64 kind, .int .i64 n, .string s, .slice A m c]
mutual
def TmV (w : World) (lo : Nat) : Tm → List Value → Prop
 | .mk kind n s kids, cs => ∃ A c vs, cs = cells4 kind n s A kids.length c ∧ kids.length ≤ c ∧ c ≤ 9223372036854775807 ∧ Reads w w.heap.size 4 A kids.length (List.flatten vs) ∧ (0 < kids.length → ∀ ad, A = some ad → lo ≤ ad.block) ∧ TmsV w lo kids vs
def TmsV (w : World) (lo : Nat) : List Tm → List (List Value) → Prop
 | [], vs => vs = []
 | k :: ks, vs => ∃ v vs', vs = v :: vs' ∧ TmV w lo k v ∧ TmsV w lo ks vs'
end
theorem TmV.len {w : World} {lo : Nat} {t : Tm} {cs : List Value} (h : TmV w lo t cs) : cs.length = 4 := by
 cases t
 rw [TmV] at h
 obtain ⟨A, c, vs, rfl, _⟩ := h
 rfl
mutual
theorem TmV.keep {w w' : World} {lo lo' : Nat} (hk : ∀ p : Addr, p.block < w.heap.size → lo ≤ p.block → w'.cell? p = w.cell? p) (hg : lo' ≤ lo) (hs : w.heap.size ≤ w'.heap.size) :
  ∀ (t : Tm) (cs : List Value), TmV w lo t cs → TmV w' lo' t cs
 | .mk kind n s kids, cs, h => by
  rw [TmV] at h ⊢
  obtain ⟨A, c, vs, h1, h2, h3, h4, h5, h6⟩ := h
  refine ⟨A, c, vs, h1, h2, h3, ⟨h4.1, fun h0 => ?_⟩, fun h0 ad e => by have := h5 h0 ad e; omega, TmsV.keep hk hg hs kids vs h6⟩
  obtain ⟨ad, e, hl, hc⟩ := h4.2 h0
  exact ⟨ad, e, by omega, fun j u hu => (hk _ (by rw [block_of_add]; exact hl) (by rw [block_of_add]; exact h5 h0 ad e)).trans (hc j u hu)⟩
theorem TmsV.keep {w w' : World} {lo lo' : Nat} (hk : ∀ p : Addr, p.block < w.heap.size → lo ≤ p.block → w'.cell? p = w.cell? p) (hg : lo' ≤ lo) (hs : w.heap.size ≤ w'.heap.size) :
  ∀ (ts : List Tm) (vs : List (List Value)), TmsV w lo ts vs → TmsV w' lo' ts vs
 | [], vs, h => by rw [TmsV] at h ⊢; exact h
 | k :: ks, vs, h => by
  rw [TmsV] at h ⊢
  obtain ⟨v, vs', h1, h2, h3⟩ := h
  exact ⟨v, vs', h1, TmV.keep hk hg hs k v h2, TmsV.keep hk hg hs ks vs' h3⟩
end
section
variable {w w' : World} {lo lo' : Nat} {t : Tm} {cs : List Value} {ts : List Tm} {vs : List (List Value)} {row : Option Nat}
theorem TmV.below (h : TmV w lo t cs) (hb : Below w.heap.size w w') : TmV w' lo t cs := TmV.keep (fun p hp _ => hb.cell hp) (Nat.le_refl _) hb.size t cs h
theorem TmV.grown (h : TmV w lo t cs) (hb : w.grownBy w' row) (hr : ∀ q, row = some q → q < lo) : TmV w' lo t cs :=
 TmV.keep (fun p hp hne => World.cell?_of_block (hb.block _ hp (fun e => by have := hr _ e.symm; omega))) (Nat.le_refl _) hb.size t cs h
theorem TmV.low (h : TmV w lo t cs) (hl : lo' ≤ lo) : TmV w lo' t cs := TmV.keep (fun p _ _ => rfl) hl (Nat.le_refl _) t cs h
theorem TmsV.below (h : TmsV w lo ts vs) (hb : Below w.heap.size w w') : TmsV w' lo ts vs := TmsV.keep (fun p hp _ => hb.cell hp) (Nat.le_refl _) hb.size ts vs h
theorem TmsV.grown (h : TmsV w lo ts vs) (hb : w.grownBy w' row) (hr : ∀ q, row = some q → q < lo) : TmsV w' lo ts vs :=
 TmsV.keep (fun p hp hne => World.cell?_of_block (hb.block _ hp (fun e => by have := hr _ e.symm; omega))) (Nat.le_refl _) hb.size ts vs h
theorem TmsV.low (h : TmsV w lo ts vs) (hl : lo' ≤ lo) : TmsV w lo' ts vs := TmsV.keep (fun p _ _ => rfl) hl (Nat.le_refl _) ts vs h
end
theorem TmsV.length {w : World} {lo : Nat} : ∀ {ts : List Tm} {vs : List (List Value)}, TmsV w lo ts vs → vs.length = ts.length
 | [], vs, h => by rw [TmsV] at h; rw [h]; rfl
 | k :: ks, vs, h => by
  rw [TmsV] at h
  obtain ⟨v, vs', rfl, _, h3⟩ := h
  rw [List.length_cons, List.length_cons, TmsV.length h3]
theorem TmsV.get {w : World} {lo : Nat} : ∀ {ts : List Tm} {vs : List (List Value)}, TmsV w lo ts vs → ∀ {i : Nat} {k : Tm}, ts[i]? = some k → ∃ v, vs[i]? = some v ∧ TmV w lo k v
 | [], vs, _, i, k, e => by simp at e
 | k :: ks, vs, h, i, x, e => by
  rw [TmsV] at h
  obtain ⟨v, vs', rfl, h2, h3⟩ := h
  cases i with
  | zero => simp at e; subst e; exact ⟨v, rfl, h2⟩
  | succ i => rw [List.getElem?_cons_succ] at e ⊢; exact TmsV.get h3 e
theorem TmsV.snoc {w : World} {lo : Nat} {k : Tm} {v : List Value} (hv : TmV w lo k v) : ∀ {ts : List Tm} {vs : List (List Value)}, TmsV w lo ts vs → TmsV w lo (ts ++ [k]) (vs ++ [v])
 | [], vs, h => by
  rw [TmsV] at h
  subst h
  rw [List.nil_append, List.nil_append, TmsV]
  exact ⟨v, [], rfl, hv, by rw [TmsV]⟩
 | k' :: ks, vs, h => by
  rw [TmsV] at h
  obtain ⟨v', vs', rfl, h2, h3⟩ := h
  rw [List.cons_append, TmsV]
  exact ⟨v', vs' ++ [v], rfl, h2, TmsV.snoc hv h3⟩
theorem flat4 {w : World} {lo : Nat} : ∀ {ts : List Tm} {vs : List (List Value)}, TmsV w lo ts vs → ∀ {i : Nat} {v : List Value}, vs[i]? = some v → ∀ j u, v[j]? = some u → vs.flatten[i * 4 + j]? = some u
 | [], vs, h, i, v, e, j, u, hu => by rw [TmsV] at h; subst h; simp at e
 | k :: ks, vs, h, i, v, e, j, u, hu => by
  rw [TmsV] at h
  obtain ⟨v', vs', rfl, h2, h3⟩ := h
  have hl := h2.len
  rw [List.flatten_cons]
  cases i with
  | zero =>
   simp at e
   subst e
   rw [Nat.zero_mul, Nat.zero_add, List.getElem?_append_left (List.getElem?_eq_some_iff.1 hu).1]
   exact hu
  | succ i =>
   rw [List.getElem?_cons_succ] at e
   rw [List.getElem?_append_right (by omega), show (i + 1) * 4 + j - v'.length = i * 4 + j by omega]
   exact flat4 h3 e j u hu
theorem kid_at {w : World} {lo : Nat} {A : Option Addr} {ts : List Tm} {vs : List (List Value)} (h : TmsV w lo ts vs) (hr : Reads w w.heap.size 4 A ts.length vs.flatten) {i : Nat} {k : Tm} (hk : ts[i]? = some k) :
  ∃ ad v, A = some ad ∧ TmV w lo k v ∧ ∀ j u, v[j]? = some u → w.cell? ((ad.add (i * 4)).add j) = some u := by
 have hi := (List.getElem?_eq_some_iff.1 hk).1
 obtain ⟨ad, e, _, hc⟩ := hr.2 (by omega)
 obtain ⟨v, hv, ht⟩ := h.get hk
 exact ⟨ad, v, e, ht, fun j u hu => by rw [add_of_add]; exact hc _ _ (flat4 h hv j u hu)⟩
def beN : List UInt8 → Nat := fun l => l.foldl (fun v b => v * 256 + b.toNat) 0
def numT (l : List UInt8) (at_ n : Nat) (most : Nat) : Except Int (Nat × Nat) :=
 if l.length < at_ + n then .error 1 else
 if most < beN ((l.drop at_).take n) then .error 3 else .ok (beN ((l.drop at_).take n), at_ + n)
def atomT (l : List UInt8) (p : Nat) : Except Int (ByteArray × Nat) :=
 match numT l p 2 1024 with
 | .error e => .error e
 | .ok (m, q) => if l.length < q + m then .error 1 else .ok (⟨((l.drop q).take m).toArray⟩, q + m)
mutual
def decT : Nat → List UInt8 → Nat → Nat → Except Int (Tm × Nat × Nat)
 | 0, _, _, _ => .error 4
 | d + 1, l, p, n =>
  if 64 < n + 1 then .error 4 else
  match l[p]? with
  | none => .error 1
  | some k =>
   if k.toNat = 1 then
    match atomT l (p + 1) with
    | .error e => .error e
    | .ok (s, q) => .ok (.mk 1 0 s [], q, n + 1)
   else if k.toNat = 2 then
    match numT l (p + 1) 4 1073741824 with
    | .error e => .error e
    | .ok (m, q) => .ok (.mk 2 m ⟨#[]⟩ [], q, n + 1)
   else if k.toNat = 3 ∨ k.toNat = 4 then
    match decK 1 d l (p + 1) (n + 1) with
    | .error e => .error e
    | .ok (ks, q, n') => .ok (.mk k.toNat 0 ⟨#[]⟩ ks, q, n')
   else if k.toNat = 5 ∨ k.toNat = 6 ∨ k.toNat = 7 then
    match decK 2 d l (p + 1) (n + 1) with
    | .error e => .error e
    | .ok (ks, q, n') => .ok (.mk k.toNat 0 ⟨#[]⟩ ks, q, n')
   else .error 2
 termination_by d => (d, 0)
def decK : Nat → Nat → List UInt8 → Nat → Nat → Except Int (List Tm × Nat × Nat)
 | 0, _, _, p, n => .ok ([], p, n)
 | m + 1, d, l, p, n =>
  match decT d l p n with
  | .error e => .error e
  | .ok (t, q, n') =>
   match decK m d l q n' with
   | .error e => .error e
   | .ok (ts, q', n'') => .ok (t :: ts, q', n'')
 termination_by m d => (d, m + 1)
end
end
section
open Go.RowKit
end
section
open Go.RowKit
theorem beN_snoc (l : List UInt8) (b : UInt8) : beN (l ++ [b]) = beN l * 256 + b.toNat := by simp [beN]
theorem foldl_be (l : List UInt8) : ∀ a : Nat, l.foldl (fun v b => v * 256 + b.toNat) a < (a + 1) * 256 ^ l.length := by
 induction l with
 | nil => intro a; simp
 | cons b l ih =>
  intro a
  have h1 := ih (a * 256 + b.toNat)
  have h2 := b.toNat_lt
  rw [List.foldl_cons, List.length_cons, Nat.pow_succ]
  have h3 : (a * 256 + b.toNat + 1) * 256 ^ l.length ≤ ((a + 1) * 256) * 256 ^ l.length := Nat.mul_le_mul_right _ (by omega)
  rw [Nat.mul_comm (256 ^ l.length) 256, ← Nat.mul_assoc]
  omega
theorem beN_lt (l : List UInt8) : beN l < 256 ^ l.length := by simpa [beN] using foldl_be l 0
theorem be3 (l : List UInt8) (h : l.length ≤ 3) : beN l < 16777216 := by
 have h1 := beN_lt l
 have h2 : 256 ^ l.length ≤ 256 ^ 3 := Nat.pow_le_pow_right (by omega) h
 exact Nat.lt_of_lt_of_le h1 (by simpa using h2)
theorem be4 (l : List UInt8) (h : l.length ≤ 4) : beN l < 4294967296 := by
 have h1 := beN_lt l
 have h2 : 256 ^ l.length ≤ 256 ^ 4 := Nat.pow_le_pow_right (by omega) h
 exact Nat.lt_of_lt_of_le h1 (by simpa using h2)
end
section
open Go.RowKit
end
section
open Go.RowKit
theorem only_grown {a b c : World} {g : Nat} {row : Option Nat} (h : a.grownBy b (some g)) (k : b.grownBy c row) (hr : ∀ q, row = some q → a.heap.size ≤ q) : a.grownBy c (some g) :=
 ⟨k.os.trans h.os, k.tape.trans h.tape, k.output.trans h.output, Nat.le_trans h.size k.size, fun i hi hne => (k.block i (Nat.lt_of_lt_of_le hi h.size) (fun e => by have := hr i e.symm; omega)).trans (h.block i hi hne)⟩
theorem own_only {w w' : World} {g base : Nat} {e : TypeId} {size n : Nat} {v : Value} {xs : List Value} (h : w.ownsRow base e size v n xs) (hg : w.grownBy w' (some g)) (hlt : g < base) : w'.ownsRow base e size v n xs := by
 refine h.kept hg (.inr (fun e => ?_))
 have := h.lt g e
 omega
theorem info_parts4 {P : Program} {t : TypeId} {z : Value} {n b : Nat} (h : (P.info? t).map (fun i => (i.zero, i.size, i.bytes)) = some (some z, n, b)) : ∃ i, P.info? t = some i ∧ i.zero = some z ∧ i.size = n ∧ i.bytes = b := by
 cases hi : P.info? t with
 | none => rw [hi] at h; cases h
 | some i =>
  rw [hi] at h
  simp at h
  exact ⟨i, rfl, h.1, h.2.1, h.2.2⟩
theorem info_term : (Tryz.prog.info? 139).map (fun i => (i.zero, i.size, i.bytes)) = some (some (.agg #[.int .i64 0, .int .i64 0, .string ⟨#[]⟩, .slice none 0 0]), 4, 56) := by kernel_rfl
theorem decK_add (d : Nat) (l : List UInt8) : ∀ (i j p n : Nat), decK (i + j) d l p n = match decK i d l p n with | .error e => .error e | .ok (ts, q, n') => (match decK j d l q n' with | .error e => .error e | .ok (us, q', n'') => .ok (ts ++ us, q', n''))
 | 0, j, p, n => by
  rw [Nat.zero_add]
  conv => rhs; rw [decK]
  simp only [List.nil_append]
  cases decK j d l p n with
  | error e => rfl
  | ok r => obtain ⟨us, q', n''⟩ := r; rfl
 | i + 1, j, p, n => by
  rw [show i + 1 + j = (i + j) + 1 by omega, decK, decK]
  cases hT : decT d l p n with
  | error e => rfl
  | ok r =>
   obtain ⟨t, q, n'⟩ := r
   simp only
   rw [decK_add d l i j q n']
   cases hK : decK i d l q n' with
   | error e => rfl
   | ok r2 =>
    obtain ⟨ts, q2, n2⟩ := r2
    simp only
    cases hJ : decK j d l q2 n2 with
    | error e => rfl
    | ok r3 => obtain ⟨us, q3, n3⟩ := r3; rfl
theorem decK_one (d : Nat) (l : List UInt8) (p n : Nat) : decK 1 d l p n = match decT d l p n with | .error e => .error e | .ok (t, q, n') => .ok ([t], q, n') := by
 rw [decK]
 cases decT d l p n with
 | error e => rfl
 | ok r => obtain ⟨t, q, n'⟩ := r; simp only [decK]
theorem TmV.form {w : World} {lo : Nat} {t : Tm} {cs : List Value} (h : TmV w lo t cs) : ∃ (kd nm : Int) (s : ByteArray) (A : Option Addr) (m cp : Nat), cs = [.int .i64 kd, .int .i64 nm, .string s, .slice A m cp] := by
 cases t
 rw [TmV] at h
 obtain ⟨A, c, vs, rfl, _⟩ := h
 exact ⟨_, _, _, _, _, _, rfl⟩
end
section
open Go.RowKit
theorem term_size : (Tryz.prog.info? 139).map (·.size) = some 4 := by kernel_rfl
theorem results_c_t {fn : Func} {p u : Tmp} (h : fn.results = #[.cell p 139, .tmp u]) (tmps : Array Value) (w : World) (g : Nat) (c0 c1 c2 c3 : Value)
  (hp : tmps.getD p undef = .pointer (some ⟨g, 0, none⟩)) (hb : Blk w g 139 #[c0, c1, c2, c3]) : (results fn tmps).run Tryz.prog w = .ok (.tuple #[.agg #[c0, c1, c2, c3], tmps.getD u undef]) w := by
 have hp' : tmps[p]?.getD undef = .pointer (some ⟨g, 0, none⟩) := by simpa using hp
 simp [results, h, hp', asAddr, run_loadVar_row w g 139 139 #[c0, c1, c2, c3] (0, 0) _ hb Tryz.underlying139 rfl term_size]
end
section
open Go.RowKit
theorem ones4 (kd nm : Int) (s : ByteArray) (A : Option Addr) (m c : Nat) : (#[Value.int .i64 kd, .int .i64 nm, .string s, .slice A m c] : Array Value).all (·.oneCell') = true := by simp [Value.oneCell']
theorem blk_cells {w : World} {g : Nat} {t : TypeId} {c0 c1 c2 c3 : Value} (h : Blk w g t #[c0, c1, c2, c3]) : ∀ j u, [c0, c1, c2, c3][j]? = some u → w.cell? ((⟨g, 0, none⟩ : Addr).add j) = some u := by
 intro j u hu
 rw [add_zero_at, h.cell j]
 simpa using hu
theorem tm_leaf (w : World) (lo : Nat) (kind n : Int) (s : ByteArray) : TmV w lo (.mk kind n s []) [.int .i64 kind, .int .i64 n, .string s, .slice none 0 0] := by
 rw [TmV]
 exact ⟨none, 0, [], rfl, Nat.le_refl _, by omega, Reads.none_, fun h => absurd h (by simp), by rw [TmsV]⟩
theorem kids_node {w : World} {lo lo' : Nat} {kind : Int} {A : Option Addr} {c : Nat} {ks : List Tm} {vs : List (List Value)} (h1 : ks.length ≤ c) (h2 : c ≤ 9223372036854775807) (h3 : Reads w w.heap.size 4 A ks.length (List.flatten vs))
  (h4 : 0 < ks.length → ∀ ad, A = some ad → lo ≤ ad.block) (h5 : TmsV w lo ks vs) (hlo : lo' ≤ lo) : TmV w lo' (.mk kind 0 ⟨#[]⟩ ks) [.int .i64 kind, .int .i64 0, .string ⟨#[]⟩, .slice A ks.length c] := by
 rw [TmV]
 exact ⟨A, c, vs, rfl, h1, h2, h3, fun h ad e => Nat.le_trans hlo (h4 h ad e), h5.low hlo⟩
end
section
open Go.RowKit
def takeT (l : List UInt8) : Except Int (Tm × Nat) :=
 match decT 16 l 0 0 with
 | .error c => .error c
 | .ok (t, q, _) => .ok (t, q)
def TakeR (l : List UInt8) (r : Except Int (Tm × Nat)) (w : World) (e : Ending) (w' : World) : Prop :=
 match r with
 | .error c => e = .returned (.tuple #[.agg #[.int .i64 0, .int .i64 0, .string ⟨#[]⟩, .slice none 0 0], .int .i64 0, .int .i64 c]) ∧ Below w.heap.size w w'
 | .ok (t, q) => ∃ (kd nm : Int) (s : ByteArray) (A : Option Addr) (m cp : Nat), e = .returned (.tuple #[.agg #[.int .i64 kd, .int .i64 nm, .string s, .slice A m cp], .int .i64 q, .int .i64 0]) ∧ TmV w' w.heap.size t [.int .i64 kd, .int .i64 nm, .string s, .slice A m cp] ∧ q ≤ l.length ∧ Below w.heap.size w w'
theorem results_c_tt {fn : Func} {p u v : Tmp} (h : fn.results = #[.cell p 139, .tmp u, .tmp v]) (tmps : Array Value) (w : World) (g : Nat) (c0 c1 c2 c3 : Value)
  (hp : tmps.getD p undef = .pointer (some ⟨g, 0, none⟩)) (hb : Blk w g 139 #[c0, c1, c2, c3]) : (results fn tmps).run Tryz.prog w = .ok (.tuple #[.agg #[c0, c1, c2, c3], tmps.getD u undef, tmps.getD v undef]) w := by
 have hp' : tmps[p]?.getD undef = .pointer (some ⟨g, 0, none⟩) := by simpa using hp
 simp [results, h, hp', asAddr, run_loadVar_row w g 139 139 #[c0, c1, c2, c3] (0, 0) _ hb Tryz.underlying139 rfl term_size]
theorem only_below {w w1 w2 : World} {g : Nat} (hb : Below w.heap.size w w1) (hg : w1.grownBy w2 (some g)) (hw : w.heap.size ≤ g) : Below w.heap.size w w2 :=
 hb.grown hg hb.size (fun q e => by injection e with e; omega)
theorem yieldsIf_load_term {ops : Array Oper} {S : World → Prop} {op : Oper} {a : Act} (hw : Region.wanted op (yielded ops a.tmps) = true) (x : Operand) (ho : op.op = .load 139 x)
  (ad : Addr) (hx : a.eval x = .pointer (some ad)) (c0 c1 c2 c3 : Value) (hS : ∀ w, S w → ∀ j u, [c0, c1, c2, c3][j]? = some u → w.cell? (ad.add j) = some u) : YieldsIf Tryz.prog ops S op (.agg #[c0, c1, c2, c3]) a :=
 .inl ⟨hw, fun w hw' => by
  unfold execOp
  simp only [ho, hx, Instr.loadAt, Instr.sureAddr, Sem.run_bind, Sem.run_pure, Result.andThen_ok, run_loadVar_at w ad 139 [c0, c1, c2, c3] _ (hS w hw') Tryz.underlying139 rfl term_size]⟩
end
section
open Go.RowKit
theorem numT_err {l : List UInt8} {p n most : Nat} {c : Int} (h : numT l p n most = .error c) : 1 ≤ c ∧ c ≤ 4 := by
 rw [numT] at h
 split at h
 ·
  injection h with e; omega
 ·
  split at h
  ·
   injection h with e; omega
  ·
   cases h
theorem atomT_err {l : List UInt8} {p : Nat} {c : Int} (h : atomT l p = .error c) : 1 ≤ c ∧ c ≤ 4 := by
 rw [atomT] at h
 cases hN : numT l p 2 1024 with
 | error e => rw [hN] at h; injection h with h; subst h; exact numT_err hN
 | ok r =>
  obtain ⟨m, q⟩ := r
  rw [hN] at h
  simp only at h
  split at h
  ·
   injection h with e; omega
  ·
   cases h
theorem decK_err (d : Nat) (hT : ∀ l p n c, decT d l p n = .error c → 1 ≤ c ∧ c ≤ 4) : ∀ m l p n c, decK m d l p n = .error c → 1 ≤ c ∧ c ≤ 4
 | 0, l, p, n, c, h => by rw [decK] at h; cases h
 | m + 1, l, p, n, c, h => by
  rw [decK] at h
  cases hD : decT d l p n with
  | error e => rw [hD] at h; injection h with h; subst h; exact hT _ _ _ _ hD
  | ok r =>
   obtain ⟨t, q, n'⟩ := r
   rw [hD] at h
   simp only at h
   cases hK : decK m d l q n' with
   | error e => rw [hK] at h; injection h with h; subst h; exact decK_err d hT m _ _ _ _ hK
   | ok r2 => obtain ⟨ts, q2, n2⟩ := r2; rw [hK] at h; cases h
theorem decT_err : ∀ d l p n c, decT d l p n = .error c → 1 ≤ c ∧ c ≤ 4
 | 0, l, p, n, c, h => by rw [decT] at h; injection h with e; omega
 | d + 1, l, p, n, c, h => by
  have hK := decK_err d (decT_err d)
  rw [decT] at h
  split at h
  ·
   injection h with e; omega
  ·
   cases hp : l[p]? with
   | none => rw [hp] at h; injection h with e; omega
   | some k =>
    rw [hp] at h
    simp only at h
    split at h
    ·
     cases hA : atomT l (p + 1) with
     | error e => rw [hA] at h; injection h with h; subst h; exact atomT_err hA
     | ok r => obtain ⟨s, q⟩ := r; rw [hA] at h; cases h
    ·
     split at h
     ·
      cases hA : numT l (p + 1) 4 1073741824 with
      | error e => rw [hA] at h; injection h with h; subst h; exact numT_err hA
      | ok r => obtain ⟨s, q⟩ := r; rw [hA] at h; cases h
     ·
      split at h
      ·
       cases hA : decK 1 d l (p + 1) (n + 1) with
       | error e => rw [hA] at h; injection h with h; subst h; exact hK _ _ _ _ _ hA
       | ok r => obtain ⟨s, q, n2⟩ := r; rw [hA] at h; cases h
      ·
       split at h
       ·
        cases hA : decK 2 d l (p + 1) (n + 1) with
        | error e => rw [hA] at h; injection h with h; subst h; exact hK _ _ _ _ _ hA
        | ok r => obtain ⟨s, q, n2⟩ := r; rw [hA] at h; cases h
       ·
        injection h with e; omega
theorem takeT_err {l : List UInt8} {c : Int} (h : takeT l = .error c) : 1 ≤ c ∧ c ≤ 4 := by
 rw [takeT] at h
 cases hD : decT 16 l 0 0 with
 | error e => rw [hD] at h; injection h with h; subst h; exact decT_err _ _ _ _ _ hD
 | ok r => obtain ⟨t, q, n⟩ := r; rw [hD] at h; cases h
def oneT (l : List UInt8) : Except Int Tm :=
 match takeT l with
 | .error c => .error c
 | .ok (t, q) => if q < l.length then .error 5 else .ok t
def OneR (r : Except Int Tm) (w : World) (e : Ending) (w' : World) : Prop :=
 match r with
 | .error c => e = .returned (.tuple #[.agg #[.int .i64 0, .int .i64 0, .string ⟨#[]⟩, .slice none 0 0], .int .i64 c]) ∧ Below w.heap.size w w'
 | .ok t => ∃ (kd nm : Int) (s : ByteArray) (A : Option Addr) (m cp : Nat), e = .returned (.tuple #[.agg #[.int .i64 kd, .int .i64 nm, .string s, .slice A m cp], .int .i64 0]) ∧ TmV w' w.heap.size t [.int .i64 kd, .int .i64 nm, .string s, .slice A m cp] ∧ Below w.heap.size w w'
end
section
open Go.RowKit
def kidsN (k : Int) : Int := if k = 1 then 0 else if k = 2 then 0 else if k = 3 then 1 else if k = 4 then 1 else if k = 5 then 2 else if k = 6 then 2 else if k = 7 then 2 else -1
theorem n_walk (n : Int) (w : World) : Calls Tryz.prog 91 #[.int .i64 n] w fun e w' => e = .returned (.agg #[.int .i64 2, .int .i64 n, .string ⟨#[]⟩, .slice none 0 0]) ∧ Below w.heap.size w w' := by
 have hb := (Below.refl w.heap.size w).alloc (Nat.le_refl _) (.cells #[.int .i64 0, .int .i64 0, .string ⟨#[]⟩, .slice none 0 0] 139)
 have hbr := Blk.new w 139 #[.int .i64 0, .int .i64 0, .string ⟨#[]⟩, .slice none 0 0]
 go_enter Tryz.func91, Tryz.ntmps91
 go_wp2_with (refine wpList_store_blk rfl 139 _ _ rfl w.heap.size _ #[.int .i64 2, .int .i64 n, .string ⟨#[]⟩, .slice none 0 0] _ rfl rfl hbr rfl term_size (ones4 _ _ _ _ _ _) ?_)
 refine bodyPost_ret (results_cell_row Tryz.results91 _ _ w.heap.size _ _ _ _ rfl hbr.setRow Tryz.underlying139 rfl (by kernel_rfl)) rfl ⟨rfl, below_setRow hb (Nat.le_refl _) _⟩
def rightB (kd nm : Int) (s : ByteArray) (m : Nat) : Bool :=
 ((m : Int) == kidsN kd) && (s.toList.isEmpty || ((kd == 1) && decide ((s.size : Int) ≤ 1024))) && ((nm == 0) || ((kd == 2) && decide (0 < nm) && decide (nm ≤ 1073741824)))
end
section
open Go.RowKit
def byteI (x : Int) : UInt8 := UInt8.ofNat (x % 256).toNat
theorem byte_cell (x : Int) : Lib.byteCells [byteI x] = [.int .u8 (x % 256)] := by
 have h0 := Int.emod_nonneg x (show (256 : Int) ≠ 0 by decide)
 have h1 := Int.emod_lt_of_pos x (show (0 : Int) < 256 by decide)
 have h2 : (byteI x).toNat = (x % 256).toNat := by
  rw [byteI, UInt8.toNat_ofNat']
  exact Nat.mod_eq_of_lt (by omega)
 simp only [Lib.byteCells, List.map_cons, List.map_nil, h2]
 rw [Int.toNat_of_nonneg h0]
def numB (v : Int) (n : Int) : List UInt8 := if n = 2 then [byteI (v / 256), byteI v] else [byteI (v / 16777216), byteI (v / 65536), byteI (v / 256), byteI v]
theorem info_u8 : (Tryz.prog.info? 5).map (fun i => (i.zero, i.size, i.bytes)) = some (some (.int .u8 0), 1, 1) := by kernel_rfl
theorem row_trans {a b c : World} {row : Option Nat} (h : a.grownBy b row) (k : b.grownBy c row) : a.grownBy c row :=
 ⟨k.os.trans h.os, k.tape.trans h.tape, k.output.trans h.output, Nat.le_trans h.size k.size, fun i hi hne => (k.block i (Nat.lt_of_lt_of_le hi h.size) hne).trans (h.block i hi hne)⟩
def RowOn (w w' : World) (v0 v1 : Value) : Prop := w.grownBy w' v0.ownBlock ∧ (v1.ownBlock = v0.ownBlock ∨ ∃ q, v1.ownBlock = some q ∧ w.heap.size ≤ q)
theorem RowOn.refl (w : World) (v : Value) : RowOn w w v v := ⟨⟨rfl, rfl, rfl, Nat.le_refl _, fun _ _ _ => rfl⟩, .inl rfl⟩
theorem RowOn.trans {w w1 w2 : World} {v0 v1 v2 : Value} (h : RowOn w w1 v0 v1) (k : RowOn w1 w2 v1 v2) : RowOn w w2 v0 v2 := by
 obtain ⟨h1, h2⟩ := h
 obtain ⟨k1, k2⟩ := k
 refine ⟨⟨k1.os.trans h1.os, k1.tape.trans h1.tape, k1.output.trans h1.output, Nat.le_trans h1.size k1.size, fun i hi hne => (k1.block i (Nat.lt_of_lt_of_le hi h1.size) (fun e => ?_)).trans (h1.block i hi hne)⟩, ?_⟩
 ·
  rcases h2 with h2 | ⟨q, h2, hq⟩
  ·
   exact hne (e.trans h2)
  ·
   rw [h2] at e
   injection e with e
   omega
 ·
  have hs := h1.size
  rcases k2 with k2 | ⟨q, k2, hq⟩
  ·
   rcases h2 with h2 | ⟨q, h2, hq⟩
   ·
    exact .inl (k2.trans h2)
   ·
    exact .inr ⟨q, k2.trans h2, hq⟩
  ·
   exact .inr ⟨q, k2, by omega⟩
theorem RowOn.alloc {w w' : World} {v0 v1 : Value} (h : RowOn w w' v0 v1) (o : Obj) : RowOn w (w'.alloc o) v0 v1 := ⟨row_trans h.1 (World.grownBy_alloc _ _ _), h.2⟩
theorem RowOn.step {w : World} {o : Obj} {w2 : World} {v0 v1 : Value} (h : (w.alloc o).grownBy w2 v0.ownBlock) (k : v1.ownBlock = v0.ownBlock ∨ v1.ownBlock = some (w.alloc o).heap.size) : RowOn w w2 v0 v1 := by
 refine ⟨row_trans (World.grownBy_alloc _ _ _) h, ?_⟩
 rcases k with k | k
 ·
  exact .inl k
 ·
  exact .inr ⟨_, k, by simp⟩
def OwnB (w0 w : World) (vb : Value) (bs : List UInt8) (e : Ending) (w' : World) : Prop := ∃ v, e = .returned v ∧ w'.ownsRow w0.heap.size 5 1 v bs.length (Lib.byteCells bs) ∧ Below w0.heap.size w0 w' ∧ RowOn w w' vb v
theorem byteCells_append (a b : List UInt8) : Lib.byteCells (a ++ b) = Lib.byteCells a ++ Lib.byteCells b := by simp [Lib.byteCells]
theorem own_byte {w : World} {B : Nat} {T : TypeId} {v : Value} {bs : List UInt8} {x : Int} (h : w.ownsRow B T 1 v (bs.length + 1) (Lib.byteCells bs ++ [.int .u8 (x % 256)])) : w.ownsRow B T 1 v (bs ++ [byteI x]).length (Lib.byteCells (bs ++ [byteI x])) := by
 rw [byteCells_append, byte_cell, List.length_append]
 exact h
end
section
open Go.RowKit
mutual
def encT : Tm → List UInt8
 | .mk kind n s kids => byteI kind :: ((if kind = 1 then numB s.size 2 ++ s.data.toList else if kind = 2 then numB n 4 else []) ++ encTs kids)
def encTs : List Tm → List UInt8
 | [] => []
 | k :: ks => encT k ++ encTs ks
end
theorem encTs_append : ∀ (a b : List Tm), encTs (a ++ b) = encTs a ++ encTs b
 | [], b => by rw [List.nil_append, show encTs [] = [] by rw [encTs], List.nil_append]
 | k :: a, b => by rw [List.cons_append, encTs, encTs, encTs_append a b, List.append_assoc]
theorem encTs_one (k : Tm) : encTs [k] = encT k := by rw [encTs, encTs, List.append_nil]
theorem encTs_take {ks : List Tm} {i : Nat} {k : Tm} (h : ks[i]? = some k) : encTs (ks.take (i + 1)) = encTs (ks.take i) ++ encT k := by
 rw [List.take_add_one, h, Option.toList, encTs_append, encTs_one]
theorem encTs_le {ks : List Tm} {i : Nat} : (encTs (ks.take i)).length ≤ (encTs ks).length := by
 have : encTs ks = encTs (ks.take i) ++ encTs (ks.drop i) := by rw [← encTs_append, List.take_append_drop]
 rw [this, List.length_append]
 omega
def OwnP (w0 : World) (bs : List UInt8) (e : Ending) (w' : World) : Prop := ∃ v, e = .returned v ∧ w'.ownsRow w0.heap.size 5 1 v bs.length (Lib.byteCells bs) ∧ Below w0.heap.size w0 w'
theorem wp_append_str {P : Program} {o : Oper} {a : Act} {w : World} {K : Act → World → Prop} {Q : Exit → Act → World → Prop} (sl x : Operand) (t u : TypeId)
  (ho : o.op = .call { callee := .builtin .append, args := #[sl, x], argTypes := #[t, u] })
  (base : Nat) (e : TypeId) (i : TypeInfo) (ht : P.underlying t = some (.slice e)) (hu : P.underlying u = some .string) (hi : P.info? e = some i) (hz : i.zero = some (.int .u8 0))
  (hsize : i.size = 1) (hby : i.bytes = 1)
  (v : Value) (n : Nat) (xs : List Value) (hs : a.eval sl = v) (hown : w.ownsRow base e 1 v n xs) (s : ByteArray) (hx : a.eval x = .string s)
  (h63 : n + s.size ≤ maxLen) (hbytes : n + s.size ≤ 140737488355328) (hbase : base ≤ w.heap.size)
  (h : ∀ v' w', w'.ownsRow base e 1 v' (n + s.size) (xs ++ Lib.strCells s) → w.grownBy w' v.ownBlock → K (a.put o.dst v') w') : o.wp P a w K Q := by
 obtain ⟨v', w', hr, h2, h3, h4⟩ := Lib.run_append_own_string (P := P) w base t u o.type e i ht hu hi hz hsize hby v n xs hown s h63 hbytes hbase
 unfold Oper.wp execOp
 simp only [ho, resolve, invoke, builtin, Sem.run_bind, Sem.run_pure, Result.andThen_ok, List.map_toArray, List.map_cons, List.map_nil, hs, hx, hr]
 exact h v' w' h2 h3
end
section
open Go.RowKit
mutual
def mayT : Tm → Int → Nat → Bool × Nat
 | .mk kind n s kids, deep, c =>
  if 64 < c + 1 ∨ 16 < deep ∨ rightB kind n s kids.length = false then (false, c + 1) else mayK kids (deep + 1) (c + 1)
def mayK : List Tm → Int → Nat → Bool × Nat
 | [], _, c => (true, c)
 | k :: ks, deep, c => match mayT k deep c with
  | (false, c') => (false, c')
  | (true, c') => mayK ks deep c'
end
mutual
theorem mayT_le : ∀ (t : Tm) (deep : Int) (c c' : Nat), mayT t deep c = (true, c') → c' ≤ 64
 | .mk kind n s kids, deep, c, c', h => by
  rw [mayT] at h
  split at h
  ·
   injection h with e; cases e
  ·
   exact mayK_le kids (deep + 1) (c + 1) c' (by omega) h
theorem mayK_le : ∀ (ks : List Tm) (deep : Int) (c c' : Nat), c ≤ 64 → mayK ks deep c = (true, c') → c' ≤ 64
 | [], deep, c, c', hc, h => by rw [mayK] at h; injection h with _ e; omega
 | k :: ks, deep, c, c', hc, h => by
  rw [mayK] at h
  cases hT : mayT k deep c with
  | mk b c1 =>
   rw [hT] at h
   cases b
   ·
    injection h with e; cases e
   ·
    exact mayK_le ks deep c1 c' (mayT_le k deep c c1 hT) h
end
end
section
open Go.RowKit
def mayB (t : Tm) : Bool := (mayT t 1 0).1
mutual
theorem enc_len : ∀ (t : Tm) (deep : Int) (c c' : Nat), mayT t deep c = (true, c') → (encT t).length + 1027 * c ≤ 1027 * c'
 | .mk kind n s kids, deep, c, c', h => by
  rw [mayT] at h
  split at h
  ·
   injection h with e; cases e
  ·
   rename_i hn
   have h1 := encs_len kids (deep + 1) (c + 1) c' h
   have hr : rightB kind n s kids.length = true := by
    cases hB : rightB kind n s kids.length
    ·
     exact absurd (.inr (.inr hB)) hn
    ·
     rfl
   rw [encT, List.length_cons, List.length_append]
   have hx : (if kind = 1 then numB s.size 2 ++ s.data.toList else if kind = 2 then numB n 4 else []).length ≤ 1026 := by
    rw [rightB, Bool.and_eq_true, Bool.and_eq_true, Bool.or_eq_true] at hr
    have hsz : s.size ≤ 1024 := by
     rcases hr.1.2 with h2 | h2
     ·
      have : s.toList = [] := by simpa using h2
      have e := Lib.size_eq s
      have e2 : s.data.toList = [] := by rw [← ByteArray.toList_eq]; exact this
      rw [e2, List.length_nil] at e
      omega
     ·
      rw [Bool.and_eq_true] at h2
      have := h2.2
      simp at this
      omega
    split
    ·
     rw [List.length_append, ← Lib.size_eq]
     simp [numB]
     omega
    ·
     split <;> simp [numB]
   omega
theorem encs_len : ∀ (ks : List Tm) (deep : Int) (c c' : Nat), mayK ks deep c = (true, c') → (encTs ks).length + 1027 * c ≤ 1027 * c'
 | [], deep, c, c', h => by rw [mayK] at h; injection h with _ e; rw [encTs]; simp; omega
 | k :: ks, deep, c, c', h => by
  rw [mayK] at h
  cases hT : mayT k deep c with
  | mk b c1 =>
   rw [hT] at h
   cases b
   ·
    injection h with e; cases e
   ·
    have h1 := enc_len k deep c c1 hT
    have h2 := encs_len ks deep c1 c' h
    rw [encTs, List.length_append]
    omega
end
theorem enc_bound {t : Tm} (h : mayB t = true) : (encT t).length ≤ 65728 := by
 rw [mayB] at h
 cases hT : mayT t 1 0 with
 | mk b c =>
  rw [hT] at h
  have hb : b = true := h
  subst hb
  have h1 := enc_len t 1 0 c hT
  have h2 := mayT_le t 1 0 c hT
  omega
end
section
open Go.RowKit
def putT (t : Tm) : List UInt8 := if mayB t = true then encT t else []
end
section
open Go.RowKit
theorem byteI_nat (x : Int) : (byteI x).toNat = (x % 256).toNat := by
 unfold byteI
 have h0 := Int.emod_nonneg x (show (256 : Int) ≠ 0 by decide)
 have h1 := Int.emod_lt_of_pos x (show (0 : Int) < 256 by decide)
 rw [UInt8.toNat_ofNat']
 omega
theorem be_two (v : Nat) (h : v ≤ 1024) : beN (numB v 2) = v := by
 simp only [numB, if_true, beN, List.foldl, byteI_nat]
 omega
theorem be_four (v : Nat) (h : v ≤ 1073741824) : beN (numB v 4) = v := by
 simp only [numB, if_neg (show ¬ (4 : Int) = 2 by decide), beN, List.foldl, byteI_nat]
 omega
theorem numB_len2 (v : Int) : (numB v 2).length = 2 := rfl
theorem numB_len4 (v : Int) : (numB v 4).length = 4 := rfl
theorem num_at (pre a rest : List UInt8) (most : Nat) : numT (pre ++ (a ++ rest)) pre.length a.length most = if most < beN a then .error 3 else .ok (beN a, pre.length + a.length) := by
 rw [numT, if_neg (by simp), List.drop_left, List.take_left]
theorem atom_at (pre rest : List UInt8) (s : ByteArray) (h : s.size ≤ 1024) : atomT (pre ++ ((numB s.size 2 ++ s.data.toList) ++ rest)) pre.length = .ok (s, pre.length + (2 + s.size)) := by
 have hn := num_at pre (numB s.size 2) (s.data.toList ++ rest) 1024
 rw [be_two _ h, if_neg (by omega), numB_len2] at hn
 have hl : s.data.toList.length = s.size := (Lib.size_eq s).symm
 rw [List.append_assoc, atomT, hn]
 simp only
 have hd : (pre ++ (numB s.size 2 ++ (s.data.toList ++ rest))).drop (pre.length + 2) = s.data.toList ++ rest := by
  rw [← List.append_assoc, show pre.length + 2 = (pre ++ numB s.size 2).length by rw [List.length_append, numB_len2], List.drop_left]
 rw [if_neg (by simp only [List.length_append, numB_len2, hl]; omega), hd, ← hl, List.take_left]
 rw [hl, Nat.add_assoc]
theorem right_cases {kind n : Int} {s : ByteArray} {m : Nat} (h : rightB kind n s m = true) :
  (kind = 1 ∧ n = 0 ∧ m = 0 ∧ s.size ≤ 1024) ∨ (kind = 2 ∧ s = ⟨#[]⟩ ∧ m = 0 ∧ 0 ≤ n ∧ n ≤ 1073741824) ∨ ((kind = 3 ∨ kind = 4) ∧ n = 0 ∧ s = ⟨#[]⟩ ∧ m = 1) ∨ ((kind = 5 ∨ kind = 6 ∨ kind = 7) ∧ n = 0 ∧ s = ⟨#[]⟩ ∧ m = 2) := by
 rw [rightB, Bool.and_eq_true, Bool.and_eq_true, Bool.or_eq_true, Bool.or_eq_true, Bool.and_eq_true, Bool.and_eq_true, Bool.and_eq_true] at h
 obtain ⟨⟨h1, h2⟩, h3⟩ := h
 simp only [beq_iff_eq, decide_eq_true_eq] at h1 h2 h3
 have hs : s.toList.isEmpty = true → s = ⟨#[]⟩ ∧ s.size = 0 := fun e => by
  have e1 : s.toList = [] := by simpa using e
  have e2 : s.data.toList = [] := by rw [← ByteArray.toList_eq]; exact e1
  have e3 : s.data = #[] := by simpa using e2
  have : s = ⟨#[]⟩ := by cases s; simp at e3; rw [e3]
  exact ⟨this, by rw [this]; rfl⟩
 unfold kidsN at h1
 by_cases k1 : kind = 1
 ·
  left
  rw [if_pos k1] at h1
  refine ⟨k1, by omega, by omega, ?_⟩
  rcases h2 with h2 | h2
  ·
   rw [(hs h2).2]; omega
  ·
   omega
 ·
  have hse : s = ⟨#[]⟩ := by
   rcases h2 with h2 | h2
   ·
    exact (hs h2).1
   ·
    exact absurd h2.1 k1
  right
  rw [if_neg k1] at h1
  by_cases k2 : kind = 2
  ·
   left
   rw [if_pos k2] at h1
   exact ⟨k2, hse, by omega, by omega, by omega⟩
  ·
   right
   have hn : n = 0 := by omega
   rw [if_neg k2] at h1
   by_cases k3 : kind = 3
   ·
    rw [if_pos k3] at h1; exact .inl ⟨.inl k3, hn, hse, by omega⟩
   ·
    rw [if_neg k3] at h1
    by_cases k4 : kind = 4
    ·
     rw [if_pos k4] at h1; exact .inl ⟨.inr k4, hn, hse, by omega⟩
    ·
     rw [if_neg k4] at h1
     by_cases k5 : kind = 5
     ·
      rw [if_pos k5] at h1; exact .inr ⟨.inl k5, hn, hse, by omega⟩
     ·
      rw [if_neg k5] at h1
      by_cases k6 : kind = 6
      ·
       rw [if_pos k6] at h1; exact .inr ⟨.inr (.inl k6), hn, hse, by omega⟩
      ·
       rw [if_neg k6] at h1
       by_cases k7 : kind = 7
       ·
        rw [if_pos k7] at h1; exact .inr ⟨.inr (.inr k7), hn, hse, by omega⟩
       ·
        rw [if_neg k7] at h1; omega
theorem at_pre (pre : List UInt8) (x : UInt8) (r : List UInt8) : (pre ++ x :: r)[pre.length]? = some x := by
 rw [List.getElem?_append_right (Nat.le_refl _), Nat.sub_self]; rfl
theorem pre_cons (pre : List UInt8) (x : UInt8) (r : List UInt8) : pre ++ x :: r = (pre ++ [x]) ++ r := by rw [List.append_assoc]; rfl
theorem pre_len (pre : List UInt8) (x : UInt8) : pre.length + 1 = (pre ++ [x]).length := by rw [List.length_append]; rfl
theorem enc_two (n : Int) (s : ByteArray) (ks : List Tm) : encT (.mk 2 n s ks) = byteI 2 :: (numB n 4 ++ encTs ks) := by rw [encT]; rfl
theorem enc_one (n : Int) (s : ByteArray) (ks : List Tm) : encT (.mk 1 n s ks) = byteI 1 :: ((numB s.size 2 ++ s.data.toList) ++ encTs ks) := by rw [encT, if_pos rfl]
theorem enc_more (k n : Int) (s : ByteArray) (ks : List Tm) (h1 : k ≠ 1) (h2 : k ≠ 2) : encT (.mk k n s ks) = byteI k :: encTs ks := by rw [encT, if_neg h1, if_neg h2, List.nil_append]
theorem may_node_true {kind n : Int} {s : ByteArray} {kids : List Tm} {deep : Int} {c c' : Nat} (h : mayT (.mk kind n s kids) deep c = (true, c')) :
  c + 1 ≤ 64 ∧ deep ≤ 16 ∧ rightB kind n s kids.length = true ∧ mayK kids (deep + 1) (c + 1) = (true, c') := by
 rw [mayT] at h
 split at h
 ·
  injection h with e; cases e
 ·
  rename_i hn
  refine ⟨by omega, by omega, ?_, h⟩
  cases hB : rightB kind n s kids.length
  ·
   exact absurd (.inr (.inr hB)) hn
  ·
   rfl
theorem may_kids_true {k : Tm} {ks : List Tm} {deep : Int} {c c' : Nat} (h : mayK (k :: ks) deep c = (true, c')) : ∃ c1, mayT k deep c = (true, c1) ∧ mayK ks deep c1 = (true, c') := by
 rw [mayK] at h
 cases hT : mayT k deep c with
 | mk b c1 =>
  rw [hT] at h
  cases b
  ·
   injection h with e; cases e
  ·
   exact ⟨c1, rfl, h⟩
mutual
theorem dec_enc : ∀ (t : Tm) (deep : Int) (c c' : Nat), mayT t deep c = (true, c') → ∀ (d : Nat), deep + d = 17 → ∀ (pre rest : List UInt8),
  decT d (pre ++ (encT t ++ rest)) pre.length c = .ok (t, pre.length + (encT t).length, c')
 | .mk kind n s kids, deep, c, c', h, d, hd, pre, rest => by
  obtain ⟨hc, hdp, hr, hk⟩ := may_node_true h
  obtain ⟨d, rfl⟩ : ∃ e, d = e + 1 := ⟨d - 1, by omega⟩
  rcases right_cases hr with ⟨rfl, rfl, hm, hs⟩ | ⟨rfl, rfl, hm, hn0, hn1⟩ | ⟨hkd, rfl, rfl, hm⟩ | ⟨hkd, rfl, rfl, hm⟩
  ·
   obtain rfl : kids = [] := List.eq_nil_of_length_eq_zero hm
   rw [mayK] at hk
   injection hk with _ hk
   rw [enc_one, encTs, List.append_nil, List.cons_append, decT, if_neg (by omega), at_pre]
   have e1 : (byteI 1).toNat = 1 := rfl
   simp only [e1]
   rw [if_pos trivial, pre_cons, pre_len, atom_at _ _ _ hs]
   simp only
   have hl : (numB (s.size : Int) 2 ++ s.data.toList).length = 2 + s.size := by rw [List.length_append, numB_len2, ← Lib.size_eq]
   rw [List.length_cons, hl, ← pre_len, hk]
   congr 3
   omega
  ·
   obtain rfl : kids = [] := List.eq_nil_of_length_eq_zero hm
   rw [mayK] at hk
   injection hk with _ hk
   obtain ⟨v, rfl⟩ : ∃ v : Nat, n = v := ⟨n.toNat, by omega⟩
   rw [enc_two, encTs, List.append_nil, List.cons_append, decT, if_neg (by omega), at_pre]
   have e1 : (byteI 2).toNat = 2 := rfl
   simp only [e1]
   have hq := num_at (pre ++ [byteI 2]) (numB v 4) rest 1073741824
   rw [be_four _ (by omega), if_neg (by omega), numB_len4] at hq
   rw [if_neg (show ¬ (2 : Nat) = 1 by decide), if_pos trivial, pre_cons, pre_len, hq]
   simp only
   rw [List.length_cons, numB_len4, ← pre_len, hk]
  ·
   have hK := decK_enc kids (deep + 1) (c + 1) c' hk d (by omega) (pre ++ [byteI kind]) rest
   rw [hm] at hK
   rw [enc_more _ _ _ _ (by omega) (by omega), List.cons_append, decT, if_neg (by omega), at_pre]
   have e1 : (byteI kind).toNat = kind.toNat := by rw [byteI_nat]; omega
   have e2 : ((kind.toNat : Nat) : Int) = kind := by omega
   simp only [e1]
   rw [if_neg (by omega), if_neg (by omega), if_pos (by omega), pre_cons, pre_len, hK]
   simp only
   rw [e2, List.length_cons, ← pre_len]
   congr 3
   omega
  ·
   have hK := decK_enc kids (deep + 1) (c + 1) c' hk d (by omega) (pre ++ [byteI kind]) rest
   rw [hm] at hK
   rw [enc_more _ _ _ _ (by omega) (by omega), List.cons_append, decT, if_neg (by omega), at_pre]
   have e1 : (byteI kind).toNat = kind.toNat := by rw [byteI_nat]; omega
   have e2 : ((kind.toNat : Nat) : Int) = kind := by omega
   simp only [e1]
   rw [if_neg (by omega), if_neg (by omega), if_neg (by omega), if_pos (by omega), pre_cons, pre_len, hK]
   simp only
   rw [e2, List.length_cons, ← pre_len]
   congr 3
   omega
theorem decK_enc : ∀ (ks : List Tm) (deep : Int) (c c' : Nat), mayK ks deep c = (true, c') → ∀ (d : Nat), deep + d = 17 → ∀ (pre rest : List UInt8),
  decK ks.length d (pre ++ (encTs ks ++ rest)) pre.length c = .ok (ks, pre.length + (encTs ks).length, c')
 | [], deep, c, c', h, d, hd, pre, rest => by
  rw [mayK] at h
  injection h with _ h
  rw [List.length_nil, decK, encTs, h]
  rfl
 | k :: ks, deep, c, c', h, d, hd, pre, rest => by
  obtain ⟨c1, h1, h2⟩ := may_kids_true h
  have e1 := dec_enc k deep c c1 h1 d hd pre (encTs ks ++ rest)
  have e2 := decK_enc ks deep c1 c' h2 d hd (pre ++ encT k) rest
  rw [List.length_append] at e2
  rw [List.length_cons, decK, encTs, List.append_assoc, e1]
  simp only
  rw [← List.append_assoc, e2]
  simp only
  rw [List.length_append, Nat.add_assoc]
end
end
section
open Go.RowKit
theorem rkids_count (k : Int) (w : World) : Calls Tryz.prog 136 #[.int .i64 k] w fun e w' => e = .returned (.int .i64 (kidsN k)) ∧ w = w' := by
 by_cases h : k = 1 ∨ k = 2 ∨ k = 3 ∨ k = 4 ∨ k = 5 ∨ k = 6 ∨ k = 7
 ·
  rcases h with rfl | rfl | rfl | rfl | rfl | rfl | rfl
  all_goals
   go_enter Tryz.func136, Tryz.ntmps136
   go_wp2_with fail
   go_ret
   exact ⟨rfl, rfl⟩
 ·
  have hv : Hid (kidsN k = -1) := by
   show _ = _
   unfold kidsN
   repeat (rw [if_neg (by omega)])
  have y1 : (k == 1) = false := by rw [beq_eq_false_iff_ne]; omega
  have y2 : (k == 2) = false := by rw [beq_eq_false_iff_ne]; omega
  have y3 : (k == 3) = false := by rw [beq_eq_false_iff_ne]; omega
  have y4 : (k == 4) = false := by rw [beq_eq_false_iff_ne]; omega
  have y5 : (k == 5) = false := by rw [beq_eq_false_iff_ne]; omega
  have y6 : (k == 6) = false := by rw [beq_eq_false_iff_ne]; omega
  have y7 : (k == 7) = false := by rw [beq_eq_false_iff_ne]; omega
  clear h
  go_enter Tryz.func136, Tryz.ntmps136
  go_wp2_with fail
  go_ret
  exact ⟨by rw [hv.out]; rfl, rfl⟩
def leftI : Bool × Nat → Int
 | (true, c) => 64 - (c : Int)
 | (false, _) => -1
theorem right_false {kind n : Int} {s : ByteArray} {m : Nat} (h : rightB kind n s m = false) :
  kidsN kind ≠ (m : Int) ∨ (kidsN kind = (m : Int) ∧ kind ≠ 1 ∧ s.toList.isEmpty = false) ∨ (kidsN kind = (m : Int) ∧ (kind = 1 ∨ kind ≠ 1 ∧ s.toList.isEmpty = true) ∧ ((1024 < (s.size : Int)) ∨ ((s.size : Int) ≤ 1024 ∧ kind ≠ 2 ∧ n ≠ 0) ∨ ((s.size : Int) ≤ 1024 ∧ kind = 2 ∧ n < 0) ∨ ((s.size : Int) ≤ 1024 ∧ kind = 2 ∧ 0 ≤ n ∧ 1073741824 < n))) := by
 rw [rightB] at h
 by_cases h1 : kidsN kind = (m : Int)
 ·
  rw [show ((m : Int) == kidsN kind) = true by rw [h1]; simp, Bool.true_and] at h
  right
  by_cases h2 : kind = 1
  ·
   right
   refine ⟨h1, .inl h2, ?_⟩
   by_cases h3 : 1024 < (s.size : Int)
   ·
    exact .inl h3
   ·
    rw [show (s.toList.isEmpty || ((kind == 1) && decide ((s.size : Int) ≤ 1024))) = true by rw [h2, decide_eq_true (by omega)]; simp, Bool.true_and] at h
    simp only [Bool.or_eq_false_iff, beq_eq_false_iff_ne] at h
    exact .inr (.inl ⟨by omega, by omega, h.1⟩)
  ·
   cases he : s.toList.isEmpty
   ·
    exact .inl ⟨h1, h2, rfl⟩
   ·
    right
    refine ⟨h1, .inr ⟨h2, rfl⟩, ?_⟩
    rw [he, Bool.true_or, Bool.true_and, Bool.or_eq_false_iff, beq_eq_false_iff_ne] at h
    have hs : s.size = 0 := by
     have e1 : s.toList = [] := by simpa using he
     rw [Lib.size_eq, ← ByteArray.toList_eq, e1]; rfl
    right
    by_cases h4 : kind = 2
    ·
     right
     rw [h4] at h
     have h5 := h.2
     simp only [Bool.and_eq_false_iff, decide_eq_false_iff_not, beq_self_eq_true, Bool.true_eq_false, false_or] at h5
     by_cases h6 : n < 0
     ·
      exact .inl ⟨by omega, h4, h6⟩
     ·
      exact .inr ⟨by omega, h4, by omega, by omega⟩
    ·
     exact .inl ⟨by omega, h4, h.1⟩
 ·
  exact .inl h1
mutual
theorem mayT_le65 : ∀ (t : Tm) (deep : Int) (c : Nat), c ≤ 64 → (mayT t deep c).2 ≤ 65
 | .mk kind n s kids, deep, c, hc => by
  rw [mayT]
  split
  ·
   simp; omega
  ·
   rename_i h
   exact mayK_le65 kids (deep + 1) (c + 1) (by omega)
theorem mayK_le65 : ∀ (ks : List Tm) (deep : Int) (c : Nat), c ≤ 64 → (mayK ks deep c).2 ≤ 65
 | [], deep, c, hc => by rw [mayK]; simp; omega
 | k :: ks, deep, c, hc => by
  rw [mayK]
  have h1 := mayT_le65 k deep c hc
  cases hM : mayT k deep c with
  | mk b c1 =>
   rw [hM] at h1
   cases b
   ·
    exact h1
   ·
    exact mayK_le65 ks deep c1 (mayT_le k deep c c1 hM)
end
def WalkOk (t : Tm) : Prop := ∀ (cs : List Value) (deep : Int) (c : Nat) (w : World), TmV w 0 t cs → 1 ≤ deep → deep ≤ 17 → c ≤ 64 →
  Calls Tryz.prog 132 #[.agg cs.toArray, .int .i64 deep, .int .i64 (64 - (c : Int))] w fun e w' => e = .returned (.int .i64 (leftI (mayT t deep c))) ∧ Below w.heap.size w w'
theorem walk_node (kind n : Int) (s : ByteArray) (kids : List Tm) (hkids : ∀ k ∈ kids, WalkOk k) : WalkOk (.mk kind n s kids) := by
 intro cs deep c w ht hd1 hd17 hc
 rw [TmV] at ht
 obtain ⟨A, cp, vs, rfl, h1, h2, h3, _, h5⟩ := ht
 show Calls _ _ #[.agg #[.int .i64 kind, .int .i64 n, .string s, .slice A kids.length cp], .int .i64 deep, .int .i64 (64 - (c : Int))] _ _
 have hb1 := (Below.refl w.heap.size w).alloc (Nat.le_refl _) (.cells #[.int .i64 kind, .int .i64 n, .string s, .slice A kids.length cp] 139)
 have hbx := Blk.new w 139 #[.int .i64 kind, .int .i64 n, .string s, .slice A kids.length cp]
 have c0 : ∀ q, ((w.alloc (.cells #[.int .i64 kind, .int .i64 n, .string s, .slice A kids.length cp] 139)).drewN q).cell? ⟨w.heap.size, 0, none⟩ = some (.int .i64 kind) := fun q => hbx.cell 0
 have c1 : ∀ q, ((w.alloc (.cells #[.int .i64 kind, .int .i64 n, .string s, .slice A kids.length cp] 139)).drewN q).cell? ⟨w.heap.size, 1, none⟩ = some (.int .i64 n) := fun q => hbx.cell 1
 have c2 : ∀ q, ((w.alloc (.cells #[.int .i64 kind, .int .i64 n, .string s, .slice A kids.length cp] 139)).drewN q).cell? ⟨w.heap.size, 2, none⟩ = some (.string s) := fun q => hbx.cell 2
 have c3 : ∀ q, ((w.alloc (.cells #[.int .i64 kind, .int .i64 n, .string s, .slice A kids.length cp] 139)).drewN q).cell? ⟨w.heap.size, 3, none⟩ = some (.slice A kids.length cp) := fun q => hbx.cell 3
 rw [mayT]
 generalize hR : ite (64 < c + 1 ∨ 16 < deep ∨ rightB kind n s kids.length = false) _ _ = R
 have HRR := Lib.hid hR
 have ck := Lib.hid (rkids_count kind)
 obtain ⟨kn, hkn⟩ : ∃ kn, kidsN kind = kn := ⟨_, rfl⟩
 rw [hkn] at ck
 have HKN := Lib.hid hkn
 have hbw : Hid (∀ q, Below w.heap.size w ((w.alloc (.cells #[.int .i64 kind, .int .i64 n, .string s, .slice A kids.length cp] 139)).drewN q)) := fun q => below_drewN hb1 q
 have hrf : ∀ P : Prop, True := fun _ => trivial
 clear hR hkn hb1 hrf
 by_cases h64 : c = 64
 ·
  have hv : Hid (R = (false, c + 1)) := by show _ = _; rw [← HRR.out, if_pos (.inl (by omega))]
  have e1 : decide (64 - (c : Int) < 1) = true := by simp; omega
  go_enter Tryz.func132, Tryz.ntmps132
  go_wp2_with fail
  go_quiet ((go_at_call 136; refine (ck.out _).mono ?_; rintro e w9 ⟨rfl, rfl⟩; exact ⟨rfl, _, rfl⟩))
  go_wp2_with fail
  go_ret
  exact ⟨by rw [hv.out]; rfl, hbw.out _⟩
 have e1 : decide (64 - (c : Int) < 1) = false := by simp; omega
 by_cases h17 : deep = 17
 ·
  have hv : Hid (R = (false, c + 1)) := by show _ = _; rw [← HRR.out, if_pos (.inr (.inl (by omega)))]
  have e2 : decide (16 < deep) = true := by simp; omega
  go_enter Tryz.func132, Tryz.ntmps132
  go_wp2_with fail
  go_quiet ((go_at_call 136; refine (ck.out _).mono ?_; rintro e w9 ⟨rfl, rfl⟩; exact ⟨rfl, _, rfl⟩))
  go_wp2_with fail
  go_ret
  exact ⟨by rw [hv.out]; rfl, hbw.out _⟩
 have e2 : decide (16 < deep) = false := by simp; omega
 cases hB : rightB kind n s kids.length
 ·
  have hv : Hid (R = (false, c + 1)) := by show _ = _; rw [← HRR.out, if_pos (.inr (.inr hB))]
  have hff := right_false hB
  rw [HKN.out] at hff
  clear hB HRR
  rcases hff with h | ⟨h, h'⟩ | ⟨h, h'⟩
  ·
   have e3 : (kn != (kids.length : Int)) = true := by rw [bne_iff_ne]; exact h
   go_enter Tryz.func132, Tryz.ntmps132
   go_wp2_with fail
   go_quiet ((go_at_call 136; refine (ck.out _).mono ?_; rintro e w9 ⟨rfl, rfl⟩; exact ⟨rfl, _, rfl⟩))
   go_wp2_with fail
   go_ret
   exact ⟨by rw [hv.out]; rfl, hbw.out _⟩
  ·
   have e3 : (kn != (kids.length : Int)) = false := by rw [h]; simp
   have e4 : (kind != 1) = true := by rw [bne_iff_ne]; exact h'.1
   have e5 : s.toList.isEmpty = false := h'.2
   clear h h'
   go_enter Tryz.func132, Tryz.ntmps132
   go_wp2_with fail
   go_quiet ((go_at_call 136; refine (ck.out _).mono ?_; rintro e w9 ⟨rfl, rfl⟩; exact ⟨rfl, _, rfl⟩))
   go_wp2_with fail
   go_ret
   exact ⟨by rw [hv.out]; rfl, hbw.out _⟩
  ·
   have e3 : (kn != (kids.length : Int)) = false := by rw [h]; simp
   have hkk : ((kind != 1) = false) ∨ ((kind != 1) = true ∧ s.toList.isEmpty = true) := by
    rcases h'.1 with h | h
    ·
     left; rw [h]; rfl
    ·
     exact .inr ⟨by rw [bne_iff_ne]; exact h.1, h.2⟩
   have hx := h'.2
   clear h h'
   rcases hx with h | ⟨h, h', h2⟩ | ⟨h, h', h2⟩ | ⟨h, h', h2, h3⟩
   ·
    have e6 : decide (1024 < (s.size : Int)) = true := by simp; omega
    clear h
    rcases hkk with e4 | ⟨e4, e5⟩
    all_goals
     go_enter Tryz.func132, Tryz.ntmps132
     go_wp2_with fail
     go_quiet ((go_at_call 136; refine (ck.out _).mono ?_; rintro e w9 ⟨rfl, rfl⟩; exact ⟨rfl, _, rfl⟩))
     go_wp2_with fail
     go_ret
     exact ⟨by rw [hv.out]; rfl, hbw.out _⟩
   ·
    have e6 : decide (1024 < (s.size : Int)) = false := by simp; omega
    have e7 : (kind != 2) = true := by rw [bne_iff_ne]; exact h'
    have e8 : (n != 0) = true := by rw [bne_iff_ne]; exact h2
    clear h h' h2
    rcases hkk with e4 | ⟨e4, e5⟩
    all_goals
     go_enter Tryz.func132, Tryz.ntmps132
     go_wp2_with fail
     go_quiet ((go_at_call 136; refine (ck.out _).mono ?_; rintro e w9 ⟨rfl, rfl⟩; exact ⟨rfl, _, rfl⟩))
     go_wp2_with fail
     go_ret
     exact ⟨by rw [hv.out]; rfl, hbw.out _⟩
   ·
    have e6 : decide (1024 < (s.size : Int)) = false := by simp; omega
    have e7 : (kind != 2) = false := by rw [h']; rfl
    have e9 : decide (n < 0) = true := by simp; omega
    clear h h' h2
    rcases hkk with e4 | ⟨e4, e5⟩
    all_goals
     go_enter Tryz.func132, Tryz.ntmps132
     go_wp2_with fail
     go_quiet ((go_at_call 136; refine (ck.out _).mono ?_; rintro e w9 ⟨rfl, rfl⟩; exact ⟨rfl, _, rfl⟩))
     go_wp2_with fail
     go_ret
     exact ⟨by rw [hv.out]; rfl, hbw.out _⟩
   ·
    have e6 : decide (1024 < (s.size : Int)) = false := by simp; omega
    have e7 : (kind != 2) = false := by rw [h']; rfl
    have e9 : decide (n < 0) = false := by simp; omega
    have e10 : decide (1073741824 < n) = true := by simp; omega
    clear h h' h2 h3
    rcases hkk with e4 | ⟨e4, e5⟩
    all_goals
     go_enter Tryz.func132, Tryz.ntmps132
     go_wp2_with fail
     go_quiet ((go_at_call 136; refine (ck.out _).mono ?_; rintro e w9 ⟨rfl, rfl⟩; exact ⟨rfl, _, rfl⟩))
     go_wp2_with fail
     go_ret
     exact ⟨by rw [hv.out]; rfl, hbw.out _⟩
 ·
  have hv : Hid (R = mayK kids (deep + 1) (c + 1)) := by show _ = _; rw [← HRR.out, if_neg]; rw [hB]; simp; omega
  have hc1 : c + 1 ≤ 64 := by omega
  have hnl : (if True then 0 else 0) = 0 := rfl
  have hkm : kn = (kids.length : Int) := by
   rw [← HKN.out]
   rw [rightB, Bool.and_eq_true, Bool.and_eq_true] at hB
   have := hB.1.1
   simp at this
   exact this.symm
  have e3 : (kn != (kids.length : Int)) = false := by rw [hkm]; simp
  have hvar : ((kind != 1) = false ∧ (kind != 2) = true ∧ (n != 0) = false ∧ decide (n < 0) = false ∧ decide (1073741824 < n) = false ∧ decide (1024 < (s.size : Int)) = false) ∨
    ((kind != 1) = true ∧ s.toList.isEmpty = true ∧ (kind != 2) = false ∧ decide (n < 0) = false ∧ decide (1073741824 < n) = false ∧ decide (1024 < (s.size : Int)) = false) ∨
    ((kind != 1) = true ∧ s.toList.isEmpty = true ∧ (kind != 2) = true ∧ (n != 0) = false ∧ decide (n < 0) = false ∧ decide (1073741824 < n) = false ∧ decide (1024 < (s.size : Int)) = false) := by
   have e0 : (⟨#[]⟩ : ByteArray).toList.isEmpty = true := by rw [str_nil rfl]; rfl
   have es : (⟨#[]⟩ : ByteArray).size = 0 := rfl
   rcases right_cases hB with ⟨rfl, rfl, hm, hs⟩ | ⟨rfl, rfl, hm, hn0, hn1⟩ | ⟨hkd, rfl, rfl, hm⟩ | ⟨hkd, rfl, rfl, hm⟩
   ·
    left; simp; omega
   ·
    right; left
    refine ⟨rfl, e0, rfl, ?_, ?_, ?_⟩ <;> simp <;> omega
   ·
    right; right
    refine ⟨by rw [bne_iff_ne]; omega, e0, by rw [bne_iff_ne]; omega, rfl, rfl, rfl, ?_⟩
    rw [es]; rfl
   ·
    right; right
    refine ⟨by rw [bne_iff_ne]; omega, e0, by rw [bne_iff_ne]; omega, rfl, rfl, rfl, ?_⟩
    rw [es]; rfl
  have HBX := Lib.hid hbx
  have HC3 := Lib.hid c3
  have hwd : True → wrap64 (deep + 1) = deep + 1 := fun _ => by unfold wrap64; omega
  have hd16 : deep ≤ 16 := by omega
  clear hB HRR hkm hnl HKN h64 h17 hbx
  rcases hvar with ⟨e4, e7, e8, e9, e10, e6⟩ | ⟨e4, e5, e7, e9, e10, e6⟩ | ⟨e4, e5, e7, e8, e9, e10, e6⟩
  all_goals
   go_enter Tryz.func132, Tryz.ntmps132
   go_wp2_with fail
   go_quiet ((go_at_call 136; refine (ck.out _).mono ?_; rintro e w9 ⟨rfl, rfl⟩; exact ⟨rfl, _, rfl⟩))
   have HX1 : Hid (Blk ((w.alloc (.cells #[.int .i64 kind, .int .i64 n, .string s, .slice A kids.length cp] 139)).drewN nq) w.heap.size 139 #[.int .i64 kind, .int .i64 n, .string s, .slice A kids.length cp]) := HBX.out
   have HB1 := Lib.hid (hbw.out nq)
   clear c0 c1 c2 c3 hbw
   go_wp2_with fail
   go_loopw [2, 7] (fun lv iv wr => ∃ (i : Nat) (r : Bool × Nat), i ≤ kids.length ∧ iv = .int .i64 i ∧ lv = .int .i64 (leftI r) ∧ Hid (mayK kids (deep + 1) (c + 1) = if r.1 = true then mayK (kids.drop i) (deep + 1) r.2 else r) ∧ r.2 ≤ 65 ∧ (r.1 = true → r.2 ≤ 64) ∧ Hid (Below w.heap.size w wr) ∧ Hid (Blk wr w.heap.size 139 #[.int .i64 kind, .int .i64 n, .string s, .slice A kids.length cp])) (fun _ iv _ => kids.length - (intOf iv).toNat)
   case atStart => exact ⟨0, (true, c + 1), by omega, rfl, by simp [leftI]; omega, rfl, by simp; omega, fun _ => by simp; omega, HB1, HX1⟩
   case round =>
    clear HB1 HX1
    obtain ⟨i, ⟨b, c'⟩, hik, rfl, rfl, hmk, hc65, hc', hb, hx⟩ := hrel
    have c33 : wr.cell? ⟨w.heap.size, 3, none⟩ = some (.slice A kids.length cp) := hx.out.cell 3
    cases b
    ·
     have hvv : Hid (R = (false, c')) := by show _ = _; rw [hv.out, hmk.out]; rfl
     have hlf : leftI (false, c') = -1 := rfl
     rw [hlf]
     by_cases hlt : i < kids.length
     all_goals
      go_wp2_with fail
      go_ret
      exact ⟨by rw [hvv.out]; rfl, hb.out⟩
    ·
     have hlf : leftI (true, c') = 64 - (c' : Int) := rfl
     have hc64 : c' ≤ 64 := hc' rfl
     rw [hlf]
     by_cases hlt : i < kids.length
     ·
      obtain ⟨k, hki⟩ : ∃ k, kids[i]? = some k := ⟨kids[i], List.getElem?_eq_getElem hlt⟩
      obtain ⟨ad, v, rfl, htk, hcv⟩ := kid_at h5 h3 hki
      obtain ⟨ad', e', hadl, _⟩ := h3.2 (by omega)
      injection e' with e'
      subst e'
      obtain ⟨kd, nm, s2, A2, m2, c2, rfl⟩ := htk.form
      have hcw : ∀ j u, [Value.int .i64 kd, .int .i64 nm, .string s2, .slice A2 m2 c2][j]? = some u → wr.cell? ((ad.add (i * 4)).add j) = some u := fun j u hu => (hb.out.cell (by rw [block_of_add, block_of_add]; exact hadl)).trans (hcv j u hu)
      have cp2 := Lib.hid (hkids k (List.mem_of_getElem? hki) _ (deep + 1) c' wr (htk.below hb.out) (by omega) (by omega) hc64)
      have hdr : Hid (mayK kids (deep + 1) (c + 1) = if (mayT k (deep + 1) c').1 = true then mayK (kids.drop (i + 1)) (deep + 1) (mayT k (deep + 1) c').2 else mayT k (deep + 1) c') := by
       show _ = _
       obtain ⟨hi9, e9⟩ := List.getElem?_eq_some_iff.1 hki
       rw [hmk.out, if_pos rfl, List.drop_eq_getElem_cons hi9, e9, mayK]
       cases hM : mayT k (deep + 1) c' with
       | mk b c1 => cases b <;> rfl
      have hle := mayT_le65 k (deep + 1) c' hc64
      have hle2 : (mayT k (deep + 1) c').1 = true → (mayT k (deep + 1) c').2 ≤ 64 := fun h => mayT_le k (deep + 1) c' _ (Prod.ext h rfl)
      generalize mayT k (deep + 1) c' = r at cp2 hdr hle hle2
      clear hki htk hcv hmk hc65 hc'
      go_wp2_with (refine wpList_load_at rfl 139 _ rfl (ad.add (i * 4)) rfl [.int .i64 kd, .int .i64 nm, .string s2, .slice A2 m2 c2] _ hcw Tryz.underlying139 rfl term_size ?_)
      refine cp2.out.mono ?_
      rintro _ w5 ⟨rfl, hb5⟩
      have HB5 := Lib.hid (below_next hb.out hb5)
      have HX5 := Lib.hid (hx.out.below hb5 hx.out.lt)
      clear hb5 cp2 hcw c33
      go_wp2_with fail
      exact ⟨⟨i + 1, r, by omega, by go_num, rfl, hdr, hle, hle2, HB5, HX5⟩, by simp [intOf]; omega⟩
     ·
      obtain rfl : i = kids.length := by omega
      have hvv : Hid (R = (true, c')) := by show _ = _; rw [hv.out, hmk.out, if_pos rfl, List.drop_length, mayK]
      go_wp2_with fail
      go_ret
      exact ⟨by rw [hvv.out]; rfl, hb.out⟩
mutual
theorem walk_all : ∀ t : Tm, WalkOk t
 | .mk kind n s kids => walk_node kind n s kids (walk_each kids)
theorem walk_each : ∀ ks : List Tm, ∀ k ∈ ks, WalkOk k
 | [], k, h => by simp at h
 | x :: ks, k, h => by
  have h1 := walk_all x
  have h2 := walk_each ks
  rcases List.mem_cons.1 h with e | h
  ·
   rw [e]; exact h1
  ·
   exact h2 k h
end
theorem rmay_walk (t : Tm) (kind n : Int) (s : ByteArray) (A : Option Addr) (m c : Nat) (w : World) (ht : TmV w 0 t [.int .i64 kind, .int .i64 n, .string s, .slice A m c]) :
  Calls Tryz.prog 123 #[.agg #[.int .i64 kind, .int .i64 n, .string s, .slice A m c]] w fun e w' => e = .returned (.bool (mayB t)) ∧ Below w.heap.size w w' := by
 have hb1 := (Below.refl w.heap.size w).alloc (Nat.le_refl _) (.cells #[.int .i64 kind, .int .i64 n, .string s, .slice A m c] 139)
 have hbx := Blk.new w 139 #[.int .i64 kind, .int .i64 n, .string s, .slice A m c]
 have cw := Lib.hid (walk_all t _ 1 0 _ (ht.below hb1) (by omega) (by omega) (by omega))
 have hv : Hid (mayB t = (mayT t 1 0).1) := rfl
 have hle := fun h => mayT_le t 1 0 _ (Prod.ext (h : (mayT t 1 0).1 = true) rfl)
 generalize mayT t 1 0 = r at cw hv hle
 obtain ⟨b, c1⟩ := r
 have HB1 := Lib.hid hb1
 clear hb1
 go_enter Tryz.func123, Tryz.ntmps123
 go_wp2_with (refine wpList_load_at rfl 139 _ rfl ⟨w.heap.size, 0, none⟩ rfl [.int .i64 kind, .int .i64 n, .string s, .slice A m c] _ (blk_cells hbx) Tryz.underlying139 rfl term_size ?_)
 refine cw.out.mono ?_
 rintro _ w5 ⟨rfl, hb5⟩
 have HB5 := Lib.hid (below_next HB1.out hb5)
 clear hb5 cw
 cases b
 ·
  have e : leftI (false, c1) = -1 := rfl
  rw [e]
  go_wp2_with fail
  go_ret
  exact ⟨by rw [hv.out]; rfl, HB5.out⟩
 ·
  have e : leftI (true, c1) = 64 - (c1 : Int) := rfl
  have hc1 : c1 ≤ 64 := hle rfl
  have hd : decide ((c1 : Int) ≤ 64) = true := by simp; omega
  rw [e]
  go_wp2_with fail
  go_ret
  exact ⟨by rw [hv.out]; first | rfl | (rw [hd]; rfl), HB5.out⟩
end
section
open Go.RowKit
theorem rnum_put (w0 : World) (bs : List UInt8) (vb : Value) (v : Int) (n : Int) (w : World) (hn : n = 2 ∨ n = 4) (hl : bs.length ≤ 1000000) (hown : w.ownsRow w0.heap.size 5 1 vb bs.length (Lib.byteCells bs)) (hb : Below w0.heap.size w0 w) :
  Calls Tryz.prog 133 #[vb, .int .i64 v, .int .i64 n] w (OwnB w0 w vb (bs ++ numB v n)) := by
 obtain ⟨i0, hi, hz0, hz1, hz2⟩ := info_parts4 info_u8
 have HO := Lib.hid hown
 clear hown
 rcases hn with rfl | rfl
 ·
  rw [show numB v 2 = [byteI (v / 256), byteI v] from rfl]
  go_enter Tryz.func133, Tryz.ntmps133
  go_wp2_with fail
  go_loopw [0, 7] (fun bv iv wr => ∃ i : Nat, i ≤ 2 ∧ iv = .int .i64 (1 - (i : Int)) ∧ Hid (wr.ownsRow w0.heap.size 5 1 bv (bs ++ ([byteI (v / 256), byteI v]).take i).length (Lib.byteCells (bs ++ ([byteI (v / 256), byteI v]).take i))) ∧ Below w0.heap.size w0 wr ∧ Hid (RowOn w wr vb bv)) (fun _ iv _ => (intOf iv + 1).toNat)
  case atStart => exact ⟨0, by omega, rfl, by show World.ownsRow _ _ _ _ _ _ _; rw [List.take_zero, List.append_nil]; exact HO.out, hb, RowOn.refl _ _⟩
  case round =>
   clear hb
   obtain ⟨i, hi2, rfl, hown, hb, hro⟩ := hrel
   rcases show i = 0 ∨ i = 1 ∨ i = 2 by omega with rfl | rfl | rfl
   ·
    rw [show (1 - ((0 : Nat) : Int)) = 1 by omega]
    obtain ⟨cs, hcs⟩ : ∃ cs, bs ++ [] = cs := ⟨_, rfl⟩
    have hlen : cs.length ≤ 1000010 := by rw [← hcs]; simp; omega
    have HCS := Lib.hid hcs
    have ho := hown.out
    rw [show List.take 0 [byteI (v / 256), byteI v] = [] from rfl, hcs] at ho
    have hrd := reads_new wr 5 [.int .u8 ((v / 256) % 256)]
    have hsz := hb.size
    clear hown hcs
    go_wp2_with (at_builtin; refine wpList_append_any (wr.alloc (.cells #[.int .u8 ((v / 256) % 256)] 5)) rfl (.tmp 14) (.tmp 20) 156 rfl w0.heap.size 5 i0 (.int .u8 0) 1 1 Tryz.underlying156 hi hz0 hz1 hz2 rfl (by decide) u0 cs.length (Lib.byteCells cs) rfl (ho.alloc _) (wr.heap.size + 1) _ 1 1 [.int .u8 ((v / 256) % 256)] rfl hrd (by simp [Value.oneCell']) (by unfold maxLen; omega) (by omega) (by simp; omega) ?_; intro v' w2 hown2 hg2 hat2)
    have ho3 := Lib.hid (own_byte hown2)
    have hb3 : Below w0.heap.size w0 w2 := (hb.alloc hsz _).grown hg2 (by simp; omega) (fun g hg => (ho.lt g hg).1)
    have hro3 := Lib.hid (hro.out.trans (RowOn.step hg2 hat2))
    clear hat2
    go_roundw
    case rel =>
     refine ⟨1, by omega, by go_num, ?_, hb3, hro3⟩
     show World.ownsRow _ _ _ _ _ _ _
     have h9 := ho3.out
     rw [← HCS.out, List.append_assoc] at h9
     exact h9
    case measure => simp [intOf]
   ·
    rw [show (1 - ((1 : Nat) : Int)) = 0 by omega]
    obtain ⟨cs, hcs⟩ : ∃ cs, bs ++ [byteI (v / 256)] = cs := ⟨_, rfl⟩
    have hlen : cs.length ≤ 1000010 := by rw [← hcs]; simp; omega
    have HCS := Lib.hid hcs
    have ho := hown.out
    rw [show List.take 1 [byteI (v / 256), byteI v] = [byteI (v / 256)] from rfl, hcs] at ho
    have hrd := reads_new wr 5 [.int .u8 (v % 256)]
    have hsz := hb.size
    clear hown hcs
    go_wp2_with (at_builtin; refine wpList_append_any (wr.alloc (.cells #[.int .u8 (v % 256)] 5)) rfl (.tmp 14) (.tmp 20) 156 rfl w0.heap.size 5 i0 (.int .u8 0) 1 1 Tryz.underlying156 hi hz0 hz1 hz2 rfl (by decide) u0 cs.length (Lib.byteCells cs) rfl (ho.alloc _) (wr.heap.size + 1) _ 1 1 [.int .u8 (v % 256)] rfl hrd (by simp [Value.oneCell']) (by unfold maxLen; omega) (by omega) (by simp; omega) ?_; intro v' w2 hown2 hg2 hat2)
    have ho3 := Lib.hid (own_byte hown2)
    have hb3 : Below w0.heap.size w0 w2 := (hb.alloc hsz _).grown hg2 (by simp; omega) (fun g hg => (ho.lt g hg).1)
    have hro3 := Lib.hid (hro.out.trans (RowOn.step hg2 hat2))
    clear hat2
    go_roundw
    case rel =>
     refine ⟨2, by omega, by go_num, ?_, hb3, hro3⟩
     show World.ownsRow _ _ _ _ _ _ _
     have h9 := ho3.out
     rw [← HCS.out, List.append_assoc] at h9
     exact h9
    case measure => simp [intOf]
   ·
    rw [show (1 - ((2 : Nat) : Int)) = -1 by omega]
    go_wp2_with fail
    go_ret
    exact ⟨_, rfl, hown.out, hb, hro.out⟩
 ·
  rw [show numB v 4 = [byteI (v / 16777216), byteI (v / 65536), byteI (v / 256), byteI v] from rfl]
  go_enter Tryz.func133, Tryz.ntmps133
  go_wp2_with fail
  go_loopw [0, 7] (fun bv iv wr => ∃ i : Nat, i ≤ 4 ∧ iv = .int .i64 (3 - (i : Int)) ∧ Hid (wr.ownsRow w0.heap.size 5 1 bv (bs ++ ([byteI (v / 16777216), byteI (v / 65536), byteI (v / 256), byteI v]).take i).length (Lib.byteCells (bs ++ ([byteI (v / 16777216), byteI (v / 65536), byteI (v / 256), byteI v]).take i))) ∧ Below w0.heap.size w0 wr ∧ Hid (RowOn w wr vb bv)) (fun _ iv _ => (intOf iv + 1).toNat)
  case atStart => exact ⟨0, by omega, rfl, by show World.ownsRow _ _ _ _ _ _ _; rw [List.take_zero, List.append_nil]; exact HO.out, hb, RowOn.refl _ _⟩
  case round =>
   clear hb
   obtain ⟨i, hi2, rfl, hown, hb, hro⟩ := hrel
   rcases show i = 0 ∨ i = 1 ∨ i = 2 ∨ i = 3 ∨ i = 4 by omega with rfl | rfl | rfl | rfl | rfl
   ·
    rw [show (3 - ((0 : Nat) : Int)) = 3 by omega]
    obtain ⟨cs, hcs⟩ : ∃ cs, bs ++ [] = cs := ⟨_, rfl⟩
    have hlen : cs.length ≤ 1000010 := by rw [← hcs]; simp; omega
    have HCS := Lib.hid hcs
    have ho := hown.out
    rw [show List.take 0 [byteI (v / 16777216), byteI (v / 65536), byteI (v / 256), byteI v] = [] from rfl, hcs] at ho
    have hrd := reads_new wr 5 [.int .u8 ((v / 16777216) % 256)]
    have hsz := hb.size
    clear hown hcs
    go_wp2_with (at_builtin; refine wpList_append_any (wr.alloc (.cells #[.int .u8 ((v / 16777216) % 256)] 5)) rfl (.tmp 14) (.tmp 20) 156 rfl w0.heap.size 5 i0 (.int .u8 0) 1 1 Tryz.underlying156 hi hz0 hz1 hz2 rfl (by decide) u0 cs.length (Lib.byteCells cs) rfl (ho.alloc _) (wr.heap.size + 1) _ 1 1 [.int .u8 ((v / 16777216) % 256)] rfl hrd (by simp [Value.oneCell']) (by unfold maxLen; omega) (by omega) (by simp; omega) ?_; intro v' w2 hown2 hg2 hat2)
    have ho3 := Lib.hid (own_byte hown2)
    have hb3 : Below w0.heap.size w0 w2 := (hb.alloc hsz _).grown hg2 (by simp; omega) (fun g hg => (ho.lt g hg).1)
    have hro3 := Lib.hid (hro.out.trans (RowOn.step hg2 hat2))
    clear hat2
    go_roundw
    case rel =>
     refine ⟨1, by omega, by go_num, ?_, hb3, hro3⟩
     show World.ownsRow _ _ _ _ _ _ _
     have h9 := ho3.out
     rw [← HCS.out, List.append_assoc] at h9
     exact h9
    case measure => simp [intOf]
   ·
    rw [show (3 - ((1 : Nat) : Int)) = 2 by omega]
    obtain ⟨cs, hcs⟩ : ∃ cs, bs ++ [byteI (v / 16777216)] = cs := ⟨_, rfl⟩
    have hlen : cs.length ≤ 1000010 := by rw [← hcs]; simp; omega
    have HCS := Lib.hid hcs
    have ho := hown.out
    rw [show List.take 1 [byteI (v / 16777216), byteI (v / 65536), byteI (v / 256), byteI v] = [byteI (v / 16777216)] from rfl, hcs] at ho
    have hrd := reads_new wr 5 [.int .u8 ((v / 65536) % 256)]
    have hsz := hb.size
    clear hown hcs
    go_wp2_with (at_builtin; refine wpList_append_any (wr.alloc (.cells #[.int .u8 ((v / 65536) % 256)] 5)) rfl (.tmp 14) (.tmp 20) 156 rfl w0.heap.size 5 i0 (.int .u8 0) 1 1 Tryz.underlying156 hi hz0 hz1 hz2 rfl (by decide) u0 cs.length (Lib.byteCells cs) rfl (ho.alloc _) (wr.heap.size + 1) _ 1 1 [.int .u8 ((v / 65536) % 256)] rfl hrd (by simp [Value.oneCell']) (by unfold maxLen; omega) (by omega) (by simp; omega) ?_; intro v' w2 hown2 hg2 hat2)
    have ho3 := Lib.hid (own_byte hown2)
    have hb3 : Below w0.heap.size w0 w2 := (hb.alloc hsz _).grown hg2 (by simp; omega) (fun g hg => (ho.lt g hg).1)
    have hro3 := Lib.hid (hro.out.trans (RowOn.step hg2 hat2))
    clear hat2
    go_roundw
    case rel =>
     refine ⟨2, by omega, by go_num, ?_, hb3, hro3⟩
     show World.ownsRow _ _ _ _ _ _ _
     have h9 := ho3.out
     rw [← HCS.out, List.append_assoc] at h9
     exact h9
    case measure => simp [intOf]
   ·
    rw [show (3 - ((2 : Nat) : Int)) = 1 by omega]
    obtain ⟨cs, hcs⟩ : ∃ cs, bs ++ [byteI (v / 16777216), byteI (v / 65536)] = cs := ⟨_, rfl⟩
    have hlen : cs.length ≤ 1000010 := by rw [← hcs]; simp; omega
    have HCS := Lib.hid hcs
    have ho := hown.out
    rw [show List.take 2 [byteI (v / 16777216), byteI (v / 65536), byteI (v / 256), byteI v] = [byteI (v / 16777216), byteI (v / 65536)] from rfl, hcs] at ho
    have hrd := reads_new wr 5 [.int .u8 ((v / 256) % 256)]
    have hsz := hb.size
    clear hown hcs
    go_wp2_with (at_builtin; refine wpList_append_any (wr.alloc (.cells #[.int .u8 ((v / 256) % 256)] 5)) rfl (.tmp 14) (.tmp 20) 156 rfl w0.heap.size 5 i0 (.int .u8 0) 1 1 Tryz.underlying156 hi hz0 hz1 hz2 rfl (by decide) u0 cs.length (Lib.byteCells cs) rfl (ho.alloc _) (wr.heap.size + 1) _ 1 1 [.int .u8 ((v / 256) % 256)] rfl hrd (by simp [Value.oneCell']) (by unfold maxLen; omega) (by omega) (by simp; omega) ?_; intro v' w2 hown2 hg2 hat2)
    have ho3 := Lib.hid (own_byte hown2)
    have hb3 : Below w0.heap.size w0 w2 := (hb.alloc hsz _).grown hg2 (by simp; omega) (fun g hg => (ho.lt g hg).1)
    have hro3 := Lib.hid (hro.out.trans (RowOn.step hg2 hat2))
    clear hat2
    go_roundw
    case rel =>
     refine ⟨3, by omega, by go_num, ?_, hb3, hro3⟩
     show World.ownsRow _ _ _ _ _ _ _
     have h9 := ho3.out
     rw [← HCS.out, List.append_assoc] at h9
     exact h9
    case measure => simp [intOf]
   ·
    rw [show (3 - ((3 : Nat) : Int)) = 0 by omega]
    obtain ⟨cs, hcs⟩ : ∃ cs, bs ++ [byteI (v / 16777216), byteI (v / 65536), byteI (v / 256)] = cs := ⟨_, rfl⟩
    have hlen : cs.length ≤ 1000010 := by rw [← hcs]; simp; omega
    have HCS := Lib.hid hcs
    have ho := hown.out
    rw [show List.take 3 [byteI (v / 16777216), byteI (v / 65536), byteI (v / 256), byteI v] = [byteI (v / 16777216), byteI (v / 65536), byteI (v / 256)] from rfl, hcs] at ho
    have hrd := reads_new wr 5 [.int .u8 (v % 256)]
    have hsz := hb.size
    clear hown hcs
    go_wp2_with (at_builtin; refine wpList_append_any (wr.alloc (.cells #[.int .u8 (v % 256)] 5)) rfl (.tmp 14) (.tmp 20) 156 rfl w0.heap.size 5 i0 (.int .u8 0) 1 1 Tryz.underlying156 hi hz0 hz1 hz2 rfl (by decide) u0 cs.length (Lib.byteCells cs) rfl (ho.alloc _) (wr.heap.size + 1) _ 1 1 [.int .u8 (v % 256)] rfl hrd (by simp [Value.oneCell']) (by unfold maxLen; omega) (by omega) (by simp; omega) ?_; intro v' w2 hown2 hg2 hat2)
    have ho3 := Lib.hid (own_byte hown2)
    have hb3 : Below w0.heap.size w0 w2 := (hb.alloc hsz _).grown hg2 (by simp; omega) (fun g hg => (ho.lt g hg).1)
    have hro3 := Lib.hid (hro.out.trans (RowOn.step hg2 hat2))
    clear hat2
    go_roundw
    case rel =>
     refine ⟨4, by omega, by go_num, ?_, hb3, hro3⟩
     show World.ownsRow _ _ _ _ _ _ _
     have h9 := ho3.out
     rw [← HCS.out, List.append_assoc] at h9
     exact h9
    case measure => simp [intOf]
   ·
    rw [show (3 - ((4 : Nat) : Int)) = -1 by omega]
    go_wp2_with fail
    go_ret
    exact ⟨_, rfl, hown.out, hb, hro.out⟩
end
section
open Go.RowKit
theorem own_not {w : World} {g base n : Nat} {T T' : TypeId} {cs : Array Value} {v : Value} {xs : List Value} (h : w.ownsRow base T 1 v n xs) (hb : Blk w g T' cs) (hne : T' ≠ T) : v.ownBlock ≠ some g := by
 rcases h.2 with ⟨rfl, _⟩ | ⟨q, cap, cur, rfl, _, hq, _⟩
 ·
  intro e; cases e
 ·
  intro e
  injection e with e
  have e' : q = g := e
  subst e'
  have hb' : w.heap[q]? = some (.cells cs T' (0, 0)) := hb
  rw [hq] at hb'
  injection hb' with h1
  injection h1 with h2 h3
  exact hne h3.symm
def KeepT (w w' : World) : Prop := ∀ g T cs, T ≠ 5 → Blk w g T cs → Blk w' g T cs
theorem KeepT.refl (w : World) : KeepT w w := fun _ _ _ _ h => h
theorem KeepT.trans {a b c : World} (h : KeepT a b) (k : KeepT b c) : KeepT a c := fun g T cs hT hb => k g T cs hT (h g T cs hT hb)
theorem KeepT.alloc {a b : World} (h : KeepT a b) (o : Obj) : KeepT a (b.alloc o) := fun g T cs hT hb => (h g T cs hT hb).alloc o
theorem KeepT.drew {a b : World} (h : KeepT a b) : KeepT a b.drew := fun g T cs hT hb => (h g T cs hT hb).drew
theorem KeepT.grown {a w w' : World} {base n : Nat} {v : Value} {xs : List Value} (h : KeepT a w) (ho : w.ownsRow base 5 1 v n xs) (hg : w.grownBy w' v.ownBlock) : KeepT a w' :=
 fun g T cs hT hb => (h g T cs hT hb).grown hg (fun e => own_not ho (h g T cs hT hb) hT e.symm)
def OwnQ (w0 w : World) (bs : List UInt8) (e : Ending) (w' : World) : Prop := ∃ v, e = .returned v ∧ w'.ownsRow w0.heap.size 5 1 v bs.length (Lib.byteCells bs) ∧ Below w0.heap.size w0 w' ∧ KeepT w w'
def RPutOk (t : Tm) : Prop := ∀ (w0 : World) (cs : List Value) (bs : List UInt8) (vb : Value) (w : World), TmV w0 0 t cs → bs.length + (encT t).length ≤ 1000000 → w.ownsRow w0.heap.size 5 1 vb bs.length (Lib.byteCells bs) → Below w0.heap.size w0 w →
  Calls Tryz.prog 124 #[vb, .agg cs.toArray] w (OwnQ w0 w (bs ++ encT t))
theorem rput_node (kind n : Int) (s : ByteArray) (kids : List Tm) (hkids : ∀ k ∈ kids, RPutOk k) : RPutOk (.mk kind n s kids) := by
 intro w0 cs bs vb w ht hl hown hb
 rw [TmV] at ht
 obtain ⟨A, c, vs, rfl, h1, h2, h3, _, h5⟩ := ht
 obtain ⟨i0, hi, hz0, hz1, hz2⟩ := info_parts4 info_u8
 rw [encT] at hl ⊢
 have hl1 : bs.length ≤ 999999 := by simp at hl; omega
 show Calls _ _ #[vb, .agg #[.int .i64 kind, .int .i64 n, .string s, .slice A kids.length c]] _ _
 have hb1 := hb.alloc hb.size (.cells #[.int .i64 kind, .int .i64 n, .string s, .slice A kids.length c] 139)
 have hsz1 : (w.alloc (.cells #[.int .i64 kind, .int .i64 n, .string s, .slice A kids.length c] 139)).heap.size = w.heap.size + 1 := by simp
 have hbx := Blk.new w 139 #[.int .i64 kind, .int .i64 n, .string s, .slice A kids.length c]
 have ho1 := hown.alloc (.cells #[.int .i64 kind, .int .i64 n, .string s, .slice A kids.length c] 139)
 have hrd := reads_new (w.alloc (.cells #[.int .i64 kind, .int .i64 n, .string s, .slice A kids.length c] 139)) 5 [.int .u8 (kind % 256)]
 rw [hsz1] at hrd
 have hk1 := (KeepT.refl w).alloc (.cells #[.int .i64 kind, .int .i64 n, .string s, .slice A kids.length c] 139)
 have hgs := hb.size
 have hTu : 139 ≠ 5 := by decide
 have hlR0 : (bs ++ byteI kind :: ((if kind = 1 then numB s.size 2 ++ s.data.toList else if kind = 2 then numB n 4 else []) ++ encTs kids)).length ≤ 1000000 := by rw [List.length_append]; exact hl
 generalize hR : bs ++ byteI kind :: ((if kind = 1 then numB s.size 2 ++ s.data.toList else if kind = 2 then numB n 4 else []) ++ encTs kids) = R at hlR0 ⊢
 have hlR := hlR0
 clear hl hlR0
 cases e1 : kind == 1
 ·
  cases e2 : kind == 2
  ·
   have HRe : Hid (R = (bs ++ [byteI kind]) ++ encTs kids) := by show _ = _; rw [← hR, if_neg (by simpa using e1), if_neg (by simpa using e2)]; simp
   clear hR
   go_enter Tryz.func124, Tryz.ntmps124
   go_wp2_with (at_builtin; refine wpList_append_any ((w.alloc (.cells #[.int .i64 kind, .int .i64 n, .string s, .slice A kids.length c] 139)).alloc (.cells #[.int .u8 (kind % 256)] 5)) rfl (.tmp 6) (.tmp 10) 156 rfl w0.heap.size 5 i0 (.int .u8 0) 1 1 Tryz.underlying156 hi hz0 hz1 hz2 rfl (by decide) vb bs.length (Lib.byteCells bs) rfl (ho1.alloc _) (w.heap.size + 2) _ 1 1 [.int .u8 (kind % 256)] rfl hrd (by simp [Value.oneCell']) (by unfold maxLen; omega) (by omega) (by simp; omega) ?_; intro v' w2 hown2 hg2 hat2; have hk2 := Lib.hid ((hk1.alloc (.cells #[.int .u8 (kind % 256)] 5)).grown (ho1.alloc _) hg2); have hbx2 : Blk w2 w.heap.size 139 #[.int .i64 kind, .int .i64 n, .string s, .slice A kids.length c] := (KeepT.grown (((KeepT.refl _).alloc _)) (ho1.alloc _) hg2) _ _ _ hTu hbx; have c20 : w2.cell? ⟨w.heap.size, 0, none⟩ = some (.int .i64 kind) := hbx2.cell 0; have c21 : w2.cell? ⟨w.heap.size, 1, none⟩ = some (.int .i64 n) := hbx2.cell 1; have c22 : w2.cell? ⟨w.heap.size, 2, none⟩ = some (.string s) := hbx2.cell 2; have c23 : w2.cell? ⟨w.heap.size, 3, none⟩ = some (.slice A kids.length c) := hbx2.cell 3; clear hat2)
   have ho3 := Lib.hid (own_byte hown2)
   have hb3 : Below w0.heap.size w0 w2 := (hb1.alloc hb1.size _).grown hg2 (by simp; omega) (fun g hg => (hown.lt g hg).1)
   clear hown2 hg2 hrd ho1 hown hbx hb1 hb hk1
   have HO := ho3
   have HBL := Lib.hid hb3
   have HK := hk2
   have HX := Lib.hid hbx2
   clear hb3 ho3 hk2 hbx2
   obtain ⟨B, hB⟩ : ∃ B, bs ++ [byteI kind] = B := ⟨_, rfl⟩
   rw [hB] at HO HRe
   have hBl : B.length + (encTs kids).length ≤ 1000000 := by have := hlR; rw [HRe.out, List.length_append] at this; exact this
   have HLR := Lib.hid hlR
   clear hB hlR
   go_loopw [0, 5] (fun bv iv wr => ∃ i : Nat, i ≤ kids.length ∧ iv = .int .i64 i ∧ Hid (wr.ownsRow w0.heap.size 5 1 bv (B ++ encTs (kids.take i)).length (Lib.byteCells (B ++ encTs (kids.take i)))) ∧ Hid (Below w0.heap.size w0 wr) ∧ Hid (KeepT w wr) ∧ Hid (Blk wr w.heap.size 139 #[.int .i64 kind, .int .i64 n, .string s, .slice A kids.length c])) (fun _ iv _ => kids.length - (intOf iv).toNat)
   case atStart => exact ⟨0, by omega, rfl, by show World.ownsRow _ _ _ _ _ _ _; rw [List.take_zero, encTs, List.append_nil]; exact HO.out, HBL, HK, HX⟩
   case round =>
    clear HBL HO HK HX
    obtain ⟨i, hik, rfl, hown, hb, hk', hx⟩ := hrel
    have c3 : wr.cell? ⟨w.heap.size, 3, none⟩ = some (.slice A kids.length c) := hx.out.cell 3
    by_cases hlt : i < kids.length
    ·
     obtain ⟨k, hk⟩ : ∃ k, kids[i]? = some k := ⟨kids[i], List.getElem?_eq_getElem hlt⟩
     obtain ⟨ad, v, rfl, htk, hcv⟩ := kid_at h5 h3 hk
     obtain ⟨ad', e', hadl, _⟩ := h3.2 (by omega)
     injection e' with e'
     subst e'
     obtain ⟨kd, nm, s2, A2, m2, c2, rfl⟩ := htk.form
     have hcw : ∀ j u, [Value.int .i64 kd, .int .i64 nm, .string s2, .slice A2 m2 c2][j]? = some u → wr.cell? ((ad.add (i * 4)).add j) = some u := fun j u hu => (hb.out.cell (by rw [block_of_add, block_of_add]; exact hadl)).trans (hcv j u hu)
     have hsn := Lib.hid (encTs_take hk)
     have hle1 : (encTs (kids.take (i + 1))).length ≤ (encTs kids).length := encTs_le
     rw [encTs_take hk, List.length_append] at hle1
     have cp := Lib.hid (hkids k (List.mem_of_getElem? hk) w0 _ _ _ wr htk (by rw [List.length_append]; omega) hown.out hb.out)
     clear hown hle1 hk htk hcv
     go_wp2_with (refine wpList_load_at rfl 139 _ rfl (ad.add (i * 4)) rfl [.int .i64 kd, .int .i64 nm, .string s2, .slice A2 m2 c2] _ hcw Tryz.underlying139 rfl term_size ?_)
     refine cp.out.mono ?_
     rintro _ w5 ⟨v5, rfl, hown5, hb5, hk5⟩
     have HO5 := Lib.hid hown5
     have HB5 := Lib.hid hb5
     have HK5 := Lib.hid (hk'.out.trans hk5)
     have HX5 := Lib.hid (hk5 _ _ _ hTu hx.out)
     clear hown5 hb5 cp hk5 c3 hx
     go_wp2_with fail
     refine ⟨⟨i + 1, by omega, by go_num, ?_, HB5, HK5, HX5⟩, by simp [intOf]; omega⟩
     show World.ownsRow _ _ _ _ _ _ _
     rw [hsn.out, ← List.append_assoc]
     exact HO5.out
    ·
     obtain rfl : i = kids.length := by omega
     go_wp2_with fail
     go_ret
     have h9 := hown.out
     rw [List.take_length] at h9
     refine ⟨_, rfl, ?_, hb.out, hk'.out⟩
     rw [HRe.out]
     exact h9
  ·
   have HRe : Hid (R = ((bs ++ [byteI kind]) ++ numB n 4) ++ encTs kids) := by show _ = _; rw [← hR, if_neg (by simpa using e1), if_pos (by simpa using e2)]; simp
   clear hR
   go_enter Tryz.func124, Tryz.ntmps124
   go_wp2_with (at_builtin; refine wpList_append_any ((w.alloc (.cells #[.int .i64 kind, .int .i64 n, .string s, .slice A kids.length c] 139)).alloc (.cells #[.int .u8 (kind % 256)] 5)) rfl (.tmp 6) (.tmp 10) 156 rfl w0.heap.size 5 i0 (.int .u8 0) 1 1 Tryz.underlying156 hi hz0 hz1 hz2 rfl (by decide) vb bs.length (Lib.byteCells bs) rfl (ho1.alloc _) (w.heap.size + 2) _ 1 1 [.int .u8 (kind % 256)] rfl hrd (by simp [Value.oneCell']) (by unfold maxLen; omega) (by omega) (by simp; omega) ?_; intro v' w2 hown2 hg2 hat2; have hk2 := Lib.hid ((hk1.alloc (.cells #[.int .u8 (kind % 256)] 5)).grown (ho1.alloc _) hg2); have hbx2 : Blk w2 w.heap.size 139 #[.int .i64 kind, .int .i64 n, .string s, .slice A kids.length c] := (KeepT.grown (((KeepT.refl _).alloc _)) (ho1.alloc _) hg2) _ _ _ hTu hbx; have c20 : w2.cell? ⟨w.heap.size, 0, none⟩ = some (.int .i64 kind) := hbx2.cell 0; have c21 : w2.cell? ⟨w.heap.size, 1, none⟩ = some (.int .i64 n) := hbx2.cell 1; have c22 : w2.cell? ⟨w.heap.size, 2, none⟩ = some (.string s) := hbx2.cell 2; have c23 : w2.cell? ⟨w.heap.size, 3, none⟩ = some (.slice A kids.length c) := hbx2.cell 3; clear hat2)
   have ho3 := Lib.hid (own_byte hown2)
   have hb3 : Below w0.heap.size w0 w2 := (hb1.alloc hb1.size _).grown hg2 (by simp; omega) (fun g hg => (hown.lt g hg).1)
   clear hown2 hg2 hrd ho1 hown hbx hb1 hb hk1
   refine (rnum_put w0 (bs ++ [byteI kind]) v' n 4 w2 (.inr rfl) (by simp; omega) ho3.out hb3).mono ?_
   rintro _ w3 ⟨v3, rfl, hown4, hb4, hr4⟩
   have hkk := KeepT.grown (KeepT.refl w2) ho3.out hr4.1
   have HO := Lib.hid hown4
   have HBL := Lib.hid hb4
   have HK := Lib.hid (hk2.out.trans hkk)
   have HX := Lib.hid (hkk _ _ _ hTu hbx2)
   clear hb3 ho3 hk2 hown4 hb4 hr4 hbx2 c20 c21 c22 c23 hkk
   go_wp2_with fail
   obtain ⟨B, hB⟩ : ∃ B, bs ++ [byteI kind] ++ numB n 4 = B := ⟨_, rfl⟩
   rw [hB] at HO HRe
   have hBl : B.length + (encTs kids).length ≤ 1000000 := by have := hlR; rw [HRe.out, List.length_append] at this; exact this
   have HLR := Lib.hid hlR
   clear hB hlR
   go_loopw [0, 5] (fun bv iv wr => ∃ i : Nat, i ≤ kids.length ∧ iv = .int .i64 i ∧ Hid (wr.ownsRow w0.heap.size 5 1 bv (B ++ encTs (kids.take i)).length (Lib.byteCells (B ++ encTs (kids.take i)))) ∧ Hid (Below w0.heap.size w0 wr) ∧ Hid (KeepT w wr) ∧ Hid (Blk wr w.heap.size 139 #[.int .i64 kind, .int .i64 n, .string s, .slice A kids.length c])) (fun _ iv _ => kids.length - (intOf iv).toNat)
   case atStart => exact ⟨0, by omega, rfl, by show World.ownsRow _ _ _ _ _ _ _; rw [List.take_zero, encTs, List.append_nil]; exact HO.out, HBL, HK, HX⟩
   case round =>
    clear HBL HO HK HX
    obtain ⟨i, hik, rfl, hown, hb, hk', hx⟩ := hrel
    have c3 : wr.cell? ⟨w.heap.size, 3, none⟩ = some (.slice A kids.length c) := hx.out.cell 3
    by_cases hlt : i < kids.length
    ·
     obtain ⟨k, hk⟩ : ∃ k, kids[i]? = some k := ⟨kids[i], List.getElem?_eq_getElem hlt⟩
     obtain ⟨ad, v, rfl, htk, hcv⟩ := kid_at h5 h3 hk
     obtain ⟨ad', e', hadl, _⟩ := h3.2 (by omega)
     injection e' with e'
     subst e'
     obtain ⟨kd, nm, s2, A2, m2, c2, rfl⟩ := htk.form
     have hcw : ∀ j u, [Value.int .i64 kd, .int .i64 nm, .string s2, .slice A2 m2 c2][j]? = some u → wr.cell? ((ad.add (i * 4)).add j) = some u := fun j u hu => (hb.out.cell (by rw [block_of_add, block_of_add]; exact hadl)).trans (hcv j u hu)
     have hsn := Lib.hid (encTs_take hk)
     have hle1 : (encTs (kids.take (i + 1))).length ≤ (encTs kids).length := encTs_le
     rw [encTs_take hk, List.length_append] at hle1
     have cp := Lib.hid (hkids k (List.mem_of_getElem? hk) w0 _ _ _ wr htk (by rw [List.length_append]; omega) hown.out hb.out)
     clear hown hle1 hk htk hcv
     go_wp2_with (refine wpList_load_at rfl 139 _ rfl (ad.add (i * 4)) rfl [.int .i64 kd, .int .i64 nm, .string s2, .slice A2 m2 c2] _ hcw Tryz.underlying139 rfl term_size ?_)
     refine cp.out.mono ?_
     rintro _ w5 ⟨v5, rfl, hown5, hb5, hk5⟩
     have HO5 := Lib.hid hown5
     have HB5 := Lib.hid hb5
     have HK5 := Lib.hid (hk'.out.trans hk5)
     have HX5 := Lib.hid (hk5 _ _ _ hTu hx.out)
     clear hown5 hb5 cp hk5 c3 hx
     go_wp2_with fail
     refine ⟨⟨i + 1, by omega, by go_num, ?_, HB5, HK5, HX5⟩, by simp [intOf]; omega⟩
     show World.ownsRow _ _ _ _ _ _ _
     rw [hsn.out, ← List.append_assoc]
     exact HO5.out
    ·
     obtain rfl : i = kids.length := by omega
     go_wp2_with fail
     go_ret
     have h9 := hown.out
     rw [List.take_length] at h9
     refine ⟨_, rfl, ?_, hb.out, hk'.out⟩
     rw [HRe.out]
     exact h9
 ·
  have HRe : Hid (R = ((bs ++ [byteI kind]) ++ numB s.size 2 ++ s.data.toList) ++ encTs kids) := by show _ = _; rw [← hR, if_pos (by simpa using e1)]; simp
  clear hR
  go_enter Tryz.func124, Tryz.ntmps124
  go_wp2_with (at_builtin; refine wpList_append_any ((w.alloc (.cells #[.int .i64 kind, .int .i64 n, .string s, .slice A kids.length c] 139)).alloc (.cells #[.int .u8 (kind % 256)] 5)) rfl (.tmp 6) (.tmp 10) 156 rfl w0.heap.size 5 i0 (.int .u8 0) 1 1 Tryz.underlying156 hi hz0 hz1 hz2 rfl (by decide) vb bs.length (Lib.byteCells bs) rfl (ho1.alloc _) (w.heap.size + 2) _ 1 1 [.int .u8 (kind % 256)] rfl hrd (by simp [Value.oneCell']) (by unfold maxLen; omega) (by omega) (by simp; omega) ?_; intro v' w2 hown2 hg2 hat2; have hk2 := Lib.hid ((hk1.alloc (.cells #[.int .u8 (kind % 256)] 5)).grown (ho1.alloc _) hg2); have hbx2 : Blk w2 w.heap.size 139 #[.int .i64 kind, .int .i64 n, .string s, .slice A kids.length c] := (KeepT.grown (((KeepT.refl _).alloc _)) (ho1.alloc _) hg2) _ _ _ hTu hbx; have c20 : w2.cell? ⟨w.heap.size, 0, none⟩ = some (.int .i64 kind) := hbx2.cell 0; have c21 : w2.cell? ⟨w.heap.size, 1, none⟩ = some (.int .i64 n) := hbx2.cell 1; have c22 : w2.cell? ⟨w.heap.size, 2, none⟩ = some (.string s) := hbx2.cell 2; have c23 : w2.cell? ⟨w.heap.size, 3, none⟩ = some (.slice A kids.length c) := hbx2.cell 3; clear hat2)
  have ho3 := Lib.hid (own_byte hown2)
  have hb3 : Below w0.heap.size w0 w2 := (hb1.alloc hb1.size _).grown hg2 (by simp; omega) (fun g hg => (hown.lt g hg).1)
  clear hown2 hg2 hrd ho1 hown hbx hb1 hb hk1
  have c22d : w2.drew.cell? ⟨w.heap.size, 2, none⟩ = some (.string s) := c22
  have hsl : s.size ≤ 1000000 := by have h9 := hlR; rw [HRe.out] at h9; have e9 := Lib.size_eq s; simp only [List.length_append] at h9; omega
  refine wp_region_held_drew (S := fun W => W.cell? ⟨w.heap.size, 2, none⟩ = some (.string s)) (by kernel_rfl) c22d (fun hHeld => ?_)
  refine tkr 0 rfl ?_
  try simp only [nrm, Act.put]
  refine tkr 1 rfl ?_
  try simp only [nrm, Act.put]
  refine tkr 2 rfl ?_
  try simp only [nrm, Act.put]
  refine tkr 3 rfl ?_
  try simp only [nrm, Act.put]
  refine tkr 5 rfl ?_
  try simp only [nrm, Act.put]
  refine tkr 6 rfl ?_
  try simp only [nrm, Act.put]
  refine rd1 4 rfl fun K hK => ?_
  go_simp
  go_at_call 133
  with_reducible refine (rnum_put w0 (bs ++ [byteI kind]) v' s.size 2 w2.drew (.inl rfl) (by simp; omega) ho3.out.drew hb3.drew).mono ?_
  rintro _ w3 ⟨v3, rfl, hown4, hb4, hr4⟩
  have hkk := KeepT.grown (KeepT.refl w2.drew) ho3.out.drew hr4.1
  have hbx3 := hkk _ _ _ hTu hbx2.drew
  have c32 : w3.cell? ⟨w.heap.size, 2, none⟩ = some (.string s) := hbx3.cell 2
  refine hK.out _ _ c32 (fun hHeld => ?_)
  clear hK K
  try simp only [nrm, Act.put]
  refine rd1 7 rfl fun K hK => ?_
  rw [if_pos (by rfl)]
  refine wp_append_str (.tmp 20) (.tmp 22) 156 9 rfl w0.heap.size 5 i0 Tryz.underlying156 Tryz.underlying9 hi hz0 hz1 hz2 v3 _ _ rfl hown4 s rfl (by unfold maxLen; simp [numB]; omega) (by simp [numB]; omega) (by have := hb4.size; omega) ?_
  intro v4 w4 hown6 hg6
  have hkk2 := KeepT.grown hkk hown4 hg6
  have hbx4 := hkk2 _ _ _ hTu hbx2.drew
  have c42 : w4.cell? ⟨w.heap.size, 2, none⟩ = some (.string s) := hbx4.cell 2
  refine hK.out _ _ c42 (fun hHeld => ?_)
  clear hK K
  try simp only [nrm, Act.put]
  refine tkr 8 rfl ?_
  try simp only [nrm, Act.put]
  refine wpAnyH_done (by kernel_rfl) ?_ _
  have HO : Hid (w4.ownsRow w0.heap.size 5 1 v4 ((bs ++ [byteI kind]) ++ numB s.size 2 ++ s.data.toList).length (Lib.byteCells ((bs ++ [byteI kind]) ++ numB s.size 2 ++ s.data.toList))) := by
   show World.ownsRow _ _ _ _ _ _ _
   rw [byteCells_append, List.length_append, ← Lib.size_eq]
   exact hown6
  have HBL := Lib.hid (hb4.grown hg6 (by have := hb4.size; omega) (fun g hg => (hown4.lt g hg).1))
  have HK := Lib.hid (hk2.out.drew.trans hkk2)
  have HX := Lib.hid hbx4
  clear hb3 ho3 hk2 hown4 hb4 hr4 hbx2 hbx3 hbx4 c20 c21 c22 c23 c22d c32 c42 hHeld hown6 hg6 hkk hkk2
  go_wp2_with fail
  obtain ⟨B, hB⟩ : ∃ B, bs ++ [byteI kind] ++ numB s.size 2 ++ s.data.toList = B := ⟨_, rfl⟩
  rw [hB] at HO HRe
  have hBl : B.length + (encTs kids).length ≤ 1000000 := by have := hlR; rw [HRe.out, List.length_append] at this; exact this
  have HLR := Lib.hid hlR
  clear hB hlR
  go_loopw [0, 5] (fun bv iv wr => ∃ i : Nat, i ≤ kids.length ∧ iv = .int .i64 i ∧ Hid (wr.ownsRow w0.heap.size 5 1 bv (B ++ encTs (kids.take i)).length (Lib.byteCells (B ++ encTs (kids.take i)))) ∧ Hid (Below w0.heap.size w0 wr) ∧ Hid (KeepT w wr) ∧ Hid (Blk wr w.heap.size 139 #[.int .i64 kind, .int .i64 n, .string s, .slice A kids.length c])) (fun _ iv _ => kids.length - (intOf iv).toNat)
  case atStart => exact ⟨0, by omega, rfl, by show World.ownsRow _ _ _ _ _ _ _; rw [List.take_zero, encTs, List.append_nil]; exact HO.out, HBL, HK, HX⟩
  case round =>
   clear HBL HO HK HX
   obtain ⟨i, hik, rfl, hown, hb, hk', hx⟩ := hrel
   have c3 : wr.cell? ⟨w.heap.size, 3, none⟩ = some (.slice A kids.length c) := hx.out.cell 3
   by_cases hlt : i < kids.length
   ·
    obtain ⟨k, hk⟩ : ∃ k, kids[i]? = some k := ⟨kids[i], List.getElem?_eq_getElem hlt⟩
    obtain ⟨ad, v, rfl, htk, hcv⟩ := kid_at h5 h3 hk
    obtain ⟨ad', e', hadl, _⟩ := h3.2 (by omega)
    injection e' with e'
    subst e'
    obtain ⟨kd, nm, s2, A2, m2, c2, rfl⟩ := htk.form
    have hcw : ∀ j u, [Value.int .i64 kd, .int .i64 nm, .string s2, .slice A2 m2 c2][j]? = some u → wr.cell? ((ad.add (i * 4)).add j) = some u := fun j u hu => (hb.out.cell (by rw [block_of_add, block_of_add]; exact hadl)).trans (hcv j u hu)
    have hsn := Lib.hid (encTs_take hk)
    have hle1 : (encTs (kids.take (i + 1))).length ≤ (encTs kids).length := encTs_le
    rw [encTs_take hk, List.length_append] at hle1
    have cp := Lib.hid (hkids k (List.mem_of_getElem? hk) w0 _ _ _ wr htk (by rw [List.length_append]; omega) hown.out hb.out)
    clear hown hle1 hk htk hcv
    go_wp2_with (refine wpList_load_at rfl 139 _ rfl (ad.add (i * 4)) rfl [.int .i64 kd, .int .i64 nm, .string s2, .slice A2 m2 c2] _ hcw Tryz.underlying139 rfl term_size ?_)
    refine cp.out.mono ?_
    rintro _ w5 ⟨v5, rfl, hown5, hb5, hk5⟩
    have HO5 := Lib.hid hown5
    have HB5 := Lib.hid hb5
    have HK5 := Lib.hid (hk'.out.trans hk5)
    have HX5 := Lib.hid (hk5 _ _ _ hTu hx.out)
    clear hown5 hb5 cp hk5 c3 hx
    go_wp2_with fail
    refine ⟨⟨i + 1, by omega, by go_num, ?_, HB5, HK5, HX5⟩, by simp [intOf]; omega⟩
    show World.ownsRow _ _ _ _ _ _ _
    rw [hsn.out, ← List.append_assoc]
    exact HO5.out
   ·
    obtain rfl : i = kids.length := by omega
    go_wp2_with fail
    go_ret
    have h9 := hown.out
    rw [List.take_length] at h9
    refine ⟨_, rfl, ?_, hb.out, hk'.out⟩
    rw [HRe.out]
    exact h9
mutual
theorem rput_all : ∀ t : Tm, RPutOk t
 | .mk kind n s kids => rput_node kind n s kids (rput_each kids)
theorem rput_each : ∀ ks : List Tm, ∀ k ∈ ks, RPutOk k
 | [], k, h => by simp at h
 | x :: ks, k, h => by
  have h1 := rput_all x
  have h2 := rput_each ks
  rcases List.mem_cons.1 h with e | h
  ·
   rw [e]; exact h1
  ·
   exact h2 k h
end
end
section
open Go.RowKit
theorem rputm_walk (t : Tm) (kind n : Int) (s : ByteArray) (A : Option Addr) (m c : Nat) (w : World) (ht : TmV w 0 t [.int .i64 kind, .int .i64 n, .string s, .slice A m c]) :
  Calls Tryz.prog 111 #[.agg #[.int .i64 kind, .int .i64 n, .string s, .slice A m c]] w (OwnP w (putT t)) := by
 have hb1 := (Below.refl w.heap.size w).alloc (Nat.le_refl _) (.cells #[.int .i64 kind, .int .i64 n, .string s, .slice A m c] 139)
 have hbx := Blk.new w 139 #[.int .i64 kind, .int .i64 n, .string s, .slice A m c]
 have cm := Lib.hid (rmay_walk t kind n s A m c _ (ht.below hb1))
 have HB1 := Lib.hid hb1
 have HBX := Lib.hid hbx
 cases hM : mayB t
 ·
  have hv : Hid (putT t = []) := by show _ = _; rw [putT, hM]; rfl
  rw [hM] at cm
  clear hM hb1
  go_enter Tryz.func111, Tryz.ntmps111
  go_wp2_with (refine wpList_load_at rfl 139 _ rfl ⟨w.heap.size, 0, none⟩ rfl [.int .i64 kind, .int .i64 n, .string s, .slice A m c] _ (blk_cells hbx) Tryz.underlying139 rfl term_size ?_)
  refine cm.out.mono ?_
  rintro _ w1 ⟨rfl, hbn⟩
  have hb2 := Lib.hid (below_next HB1.out hbn)
  clear hbn
  go_wp2_with fail
  go_ret
  rw [hv.out]
  exact ⟨_, rfl, World.ownsRow_nil _ _ _ _, hb2.out⟩
 ·
  have hv : Hid (putT t = encT t) := by show _ = _; rw [putT, hM]; rfl
  have hle := enc_bound hM
  rw [hM] at cm
  clear hM hb1
  go_enter Tryz.func111, Tryz.ntmps111
  go_wp2_with (refine wpList_load_at rfl 139 _ rfl ⟨w.heap.size, 0, none⟩ rfl [.int .i64 kind, .int .i64 n, .string s, .slice A m c] _ (blk_cells hbx) Tryz.underlying139 rfl term_size ?_)
  refine cm.out.mono ?_
  rintro _ w1 ⟨rfl, hbn⟩
  have hbx1 := hbx.below hbn (by simp)
  have hb2 := below_next HB1.out hbn
  have cp := Lib.hid (rput_all t w _ [] (.slice none 0 0) w1 ht (by simp; omega) (World.ownsRow_nil _ _ _ _) hb2)
  clear hbn hb2
  go_wp2_with (refine wpList_load_at rfl 139 _ rfl ⟨w.heap.size, 0, none⟩ rfl [.int .i64 kind, .int .i64 n, .string s, .slice A m c] _ (blk_cells hbx1) Tryz.underlying139 rfl term_size ?_)
  refine cp.out.mono ?_
  rintro _ w2 ⟨v, rfl, hown, hb3, _⟩
  have HO := Lib.hid hown
  have HB3 := Lib.hid hb3
  clear hown hb3 cp
  go_wp2_with fail
  go_ret
  rw [hv.out]
  exact ⟨_, rfl, HO.out, HB3.out⟩
end
end K9
end Go.Proofs.YtnhjgocdepbajaaGreat

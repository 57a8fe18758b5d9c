/- JSON values in memory whose rows lie in blocks that a predicate allows; json's parser: a list. Conditions as of the words. -/
import Derived.Test.YtieppmppdmcleaaGreatDoorBC
set_option linter.unusedVariables false
set_option linter.unusedSimpArgs false
set_option maxRecDepth 20000
namespace Go.Proofs.YtieppmppdmcleaaGreatDoor
section
open Go.RowKit
mutual
def JvP (w : World) (D : Nat → Prop) : Jv → List Value → Prop
 | .mk kind b n s names kids, cs => ∃ NA nc A c vs, cs = cells6 kind b n s NA names.length nc A kids.length c ∧ (names.length ≤ nc ∧ nc ≤ 9223372036854775807) ∧ (kids.length ≤ c ∧ c ≤ 9223372036854775807) ∧ Reads w w.heap.size 1 NA names.length (strVs names) ∧ (0 < names.length → ∀ ad, NA = some ad → D ad.block) ∧ Reads w w.heap.size 6 A kids.length (List.flatten vs) ∧ (0 < kids.length → ∀ ad, A = some ad → D ad.block) ∧ JvsP w D kids vs
def JvsP (w : World) (D : Nat → Prop) : List Jv → List (List Value) → Prop
 | [], vs => vs = []
 | k :: ks, vs => ∃ v vs', vs = v :: vs' ∧ JvP w D k v ∧ JvsP w D ks vs'
end
mutual
theorem JvV.toP {w : World} {lo : Nat} {D : Nat → Prop} (hD : ∀ b, lo ≤ b → b < w.heap.size → D b) : ∀ (t : Jv) (cs : List Value), JvV w lo t cs → JvP w D t cs
 | .mk kind b n s names kids, cs, h => by
  rw [JvV] at h
  rw [JvP]
  obtain ⟨NA, nc, A, c, vs, h1, h2, h3, h4, h5, h6, h7, h8⟩ := h
  refine ⟨NA, nc, A, c, vs, h1, h2, h3, h4, fun h0 ad e => ?_, h6, fun h0 ad e => ?_, JvsV.toP hD kids vs h8⟩
  ·
   obtain ⟨ad', e', hb, _⟩ := h4.2 h0
   rw [e] at e'; injection e' with e'; subst e'
   exact hD _ (h5 h0 ad e) hb
  ·
   obtain ⟨ad', e', hb, _⟩ := h6.2 h0
   rw [e] at e'; injection e' with e'; subst e'
   exact hD _ (h7 h0 ad e) hb
theorem JvsV.toP {w : World} {lo : Nat} {D : Nat → Prop} (hD : ∀ b, lo ≤ b → b < w.heap.size → D b) : ∀ (ts : List Jv) (vs : List (List Value)), JvsV w lo ts vs → JvsP w D ts vs
 | [], vs, h => by rw [JvsV] at h; rw [JvsP]; exact h
 | k :: ks, vs, h => by
  rw [JvsV] at h
  rw [JvsP]
  obtain ⟨v, vs', h1, h2, h3⟩ := h
  exact ⟨v, vs', h1, JvV.toP hD k v h2, JvsV.toP hD ks vs' h3⟩
end
mutual
theorem JvP.toV {w : World} {lo : Nat} {D : Nat → Prop} (hD : ∀ b, D b → lo ≤ b) : ∀ (t : Jv) (cs : List Value), JvP w D t cs → JvV w lo t cs
 | .mk kind b n s names kids, cs, h => by
  rw [JvP] at h
  rw [JvV]
  obtain ⟨NA, nc, A, c, vs, h1, h2, h3, h4, h5, h6, h7, h8⟩ := h
  exact ⟨NA, nc, A, c, vs, h1, h2, h3, h4, fun h0 ad e => hD _ (h5 h0 ad e), h6, fun h0 ad e => hD _ (h7 h0 ad e), JvsP.toV hD kids vs h8⟩
theorem JvsP.toV {w : World} {lo : Nat} {D : Nat → Prop} (hD : ∀ b, D b → lo ≤ b) : ∀ (ts : List Jv) (vs : List (List Value)), JvsP w D ts vs → JvsV w lo ts vs
 | [], vs, h => by rw [JvsP] at h; rw [JvsV]; exact h
 | k :: ks, vs, h => by
  rw [JvsP] at h
  rw [JvsV]
  obtain ⟨v, vs', h1, h2, h3⟩ := h
  exact ⟨v, vs', h1, JvP.toV hD k v h2, JvsP.toV hD ks vs' h3⟩
end
theorem reads_keepP {w w' : World} {D : Nat → Prop} {size n : Nat} {A : Option Addr} {xs : List Value} (hk : ∀ p : Addr, p.block < w.heap.size → D p.block → w'.cell? p = w.cell? p) (hs : w.heap.size ≤ w'.heap.size) (h : Reads w w.heap.size size A n xs) (hl : 0 < n → ∀ ad, A = some ad → D ad.block) : Reads w' w'.heap.size size A n xs := by
 refine ⟨h.1, fun h0 => ?_⟩
 obtain ⟨ad, e, hb, hc⟩ := h.2 h0
 exact ⟨ad, e, by omega, fun j u hu => (hk _ (by rw [block_of_add]; exact hb) (by rw [block_of_add]; exact hl h0 ad e)).trans (hc j u hu)⟩
mutual
theorem JvP.keep {w w' : World} {D D' : Nat → Prop} (hk : ∀ p : Addr, p.block < w.heap.size → D p.block → w'.cell? p = w.cell? p) (hD : ∀ b, b < w.heap.size → D b → D' b) (hs : w.heap.size ≤ w'.heap.size) :
  ∀ (t : Jv) (cs : List Value), JvP w D t cs → JvP w' D' t cs
 | .mk kind b n s names kids, cs, h => by
  rw [JvP] at h ⊢
  obtain ⟨NA, nc, A, c, vs, h1, h2, h3, h4, h5, h6, h7, h8⟩ := h
  refine ⟨NA, nc, A, c, vs, h1, h2, h3, reads_keepP hk hs h4 h5, fun h0 ad e => ?_, reads_keepP hk hs h6 h7, fun h0 ad e => ?_, JvsP.keep hk hD hs kids vs h8⟩
  ·
   obtain ⟨ad', e', hb, _⟩ := h4.2 h0
   rw [e] at e'; injection e' with e'; subst e'
   exact hD _ hb (h5 h0 ad e)
  ·
   obtain ⟨ad', e', hb, _⟩ := h6.2 h0
   rw [e] at e'; injection e' with e'; subst e'
   exact hD _ hb (h7 h0 ad e)
theorem JvsP.keep {w w' : World} {D D' : Nat → Prop} (hk : ∀ p : Addr, p.block < w.heap.size → D p.block → w'.cell? p = w.cell? p) (hD : ∀ b, b < w.heap.size → D b → D' b) (hs : w.heap.size ≤ w'.heap.size) :
  ∀ (ts : List Jv) (vs : List (List Value)), JvsP w D ts vs → JvsP w' D' ts vs
 | [], vs, h => by rw [JvsP] at h ⊢; exact h
 | k :: ks, vs, h => by
  rw [JvsP] at h ⊢
  obtain ⟨v, vs', h1, h2, h3⟩ := h
  exact ⟨v, vs', h1, JvP.keep hk hD hs k v h2, JvsP.keep hk hD hs ks vs' h3⟩
end
theorem JvsP.snoc {w : World} {D : Nat → Prop} {k : Jv} {v : List Value} (hv : JvP w D k v) : ∀ {ts : List Jv} {vs : List (List Value)}, JvsP w D ts vs → JvsP w D (ts ++ [k]) (vs ++ [v])
 | [], vs, h => by
  rw [JvsP] at h
  subst h
  rw [List.nil_append, List.nil_append, JvsP]
  exact ⟨v, [], rfl, hv, by rw [JvsP]⟩
 | k' :: ks, vs, h => by
  rw [JvsP] at h
  obtain ⟨v', vs', rfl, h2, h3⟩ := h
  rw [List.cons_append, JvsP]
  exact ⟨v', vs' ++ [v], rfl, h2, JvsP.snoc hv h3⟩
theorem JvsP.grown {w w' : World} {D : Nat → Prop} {row : Option Nat} {ts : List Jv} {vs : List (List Value)} (h : JvsP w D ts vs) (hb : w.grownBy w' row) (hr : ∀ q, row = some q → ¬ D q) : JvsP w' D ts vs :=
 JvsP.keep (fun p hp hd => World.cell?_of_block (hb.block _ hp (fun e => hr _ e.symm hd))) (fun _ _ h => h) hb.size ts vs h
section
variable {P : Program} (w : World)
theorem wpList_append_at {ops : Array Oper} {rest : List Oper} {o : Oper} {a : Act} {Q : Exit → Act → World → Prop} (hgd : o.guard = none) (s x : Operand) (t : TypeId)
  (ho : o.op = .call { callee := .builtin .append, args := #[s, x], argTypes := #[t, t] })
  (base : Nat) (e : TypeId) (i : TypeInfo) (z : Value) (size bytes : Nat) (ht : P.underlying t = some (.slice e)) (hi : P.info? e = some i) (hz : i.zero = some z)
  (hsize : i.size = size) (hby : i.bytes = bytes) (hzs : z.cells.size = size) (hsz : 0 < size)
  (v : Value) (n : Nat) (xs : List Value) (hs : a.eval s = v) (hown : w.ownsRow base e size v n xs)
  (us : List Value) (hus : us.length = size) (hx : a.eval x = .slice (some ⟨w.heap.size, 0, none⟩) 1 1) (h1 : ∀ u ∈ us, u.oneCell' = true)
  (h63 : n + 1 ≤ maxLen) (hbytes : (n + 1) * bytes ≤ 140737488355328) (hbase : base ≤ w.heap.size)
  (h : ∀ v' w', w'.ownsRow base e size v' (n + 1) (xs ++ us) → w.grownBy w' v.ownBlock → (v'.ownBlock = v.ownBlock ∨ v'.ownBlock = some (w.heap.size + 1)) → wpList P ops Q rest (a.put o.dst v') w') : wpList P ops Q (o :: rest) a (w.alloc (.cells us.toArray e)) := by
 refine wpList_append_any (w.alloc (.cells us.toArray e)) hgd s x t ho base e i z size bytes ht hi hz hsize hby hzs hsz v n xs hs (hown.alloc _) (w.heap.size + 1) _ 1 1 us hx (hus ▸ reads_new w e us) h1 h63 hbytes (by simp; omega) fun v' w' h2 h3 h4 => h v' w' h2 ?_ (by simpa using h4)
 exact ⟨h3.os, h3.tape, h3.output, Nat.le_trans (by simp) h3.size, fun k hk hne => (h3.block k (by simp; omega) hne).trans (Below.heap_alloc w _ k hk)⟩
end
def Kids (w : World) (lo : Nat) (nv : Value) (names : List (List UInt8)) (av : Value) (acc : List Jv) : Prop :=
 ∃ vs, w.ownsRow lo 9 1 nv names.length (strVs names) ∧ w.ownsRow lo 26 6 av acc.length vs.flatten ∧ JvsP w (fun b => lo ≤ b ∧ some b ≠ av.ownBlock ∧ some b ≠ nv.ownBlock) acc vs
theorem Kids.nil (w : World) (lo : Nat) : Kids w lo (.slice none 0 0) [] (.slice none 0 0) [] := ⟨[], World.ownsRow_nil _ _ _ _, World.ownsRow_nil _ _ _ _, by rw [JvsP]⟩
theorem own_grown {w w' : World} {base : Nat} {e : TypeId} {size n : Nat} {v : Value} {xs : List Value} {row : Option Nat} (h : w.ownsRow base e size v n xs) (hb : w.grownBy w' row) (hr : ∀ q, row = some q → q < base) : w'.ownsRow base e size v n xs := by
 rcases hv : v.ownBlock with _ | g
 ·
  exact h.kept hb (.inl hv)
 ·
  refine h.kept hb (.inr ?_)
  rw [hv]
  rintro rfl
  have := hr g rfl
  have := (h.lt g hv).1
  omega
theorem own_apart {w : World} {base : Nat} {e e' : TypeId} {size size' n n' : Nat} {v v' : Value} {xs xs' : List Value} (h : w.ownsRow base e size v n xs) (h' : w.ownsRow base e' size' v' n' xs') (hne : e ≠ e') : v.ownBlock = none ∨ v.ownBlock ≠ v'.ownBlock := by
 rcases h.2 with ⟨rfl, _⟩ | ⟨g, cap, cur, rfl, _, hg, _⟩
 ·
  exact .inl rfl
 ·
  rcases h'.2 with ⟨rfl, _⟩ | ⟨g', cap', cur', rfl, _, hg', _⟩
  ·
   exact .inr (by simp [Value.ownBlock])
  ·
   refine .inr (fun e1 => ?_)
   simp [Value.ownBlock] at e1
   subst e1
   rw [hg] at hg'
   simp at hg'
   exact hne hg'.2
theorem Kids.grown {w w' : World} {lo : Nat} {nv av : Value} {names : List (List UInt8)} {acc : List Jv} {row : Option Nat} (h : Kids w lo nv names av acc) (hb : w.grownBy w' row) (hr : ∀ q, row = some q → q < lo) : Kids w' lo nv names av acc := by
 obtain ⟨vs, h0, h1, h2⟩ := h
 exact ⟨vs, own_grown h0 hb hr, own_grown h1 hb hr, h2.grown hb (fun q e hd => by have := hr q e; have := hd.1; omega)⟩
theorem Kids.value {w : World} {lo : Nat} {nv av : Value} {names : List (List UInt8)} {acc : List Jv} (h : Kids w lo nv names av acc) (kind : Int) (b : Bool) (n : Int) (s : List UInt8) :
  ∃ NA nc A c, nv = .slice NA names.length nc ∧ av = .slice A acc.length c ∧ JvV w lo (.mk kind b n s names acc) (cells6 kind b n s NA names.length nc A acc.length c) := by
 obtain ⟨vs, h0, h1, h2⟩ := h
 have hn : ∃ NA nc, nv = .slice NA names.length nc ∧ (names.length ≤ nc ∧ nc ≤ 9223372036854775807) ∧ Reads w w.heap.size 1 NA names.length (strVs names) ∧ (0 < names.length → ∀ ad, NA = some ad → lo ≤ ad.block) := by
  rcases h0.2 with ⟨rfl, e⟩ | ⟨g, cap, cur, rfl, hb, _, hc, hm, _⟩
  ·
   rw [e] at h0 ⊢
   exact ⟨none, 0, rfl, ⟨Nat.le_refl _, by decide⟩, Reads.of_own h0, fun h => absurd h (by omega)⟩
  ·
   exact ⟨_, cap, rfl, ⟨hc, hm⟩, Reads.of_own h0, fun _ ad e => by injection e with e; rw [← e]; exact hb⟩
 have ha : ∃ A c, av = .slice A acc.length c ∧ (acc.length ≤ c ∧ c ≤ 9223372036854775807) ∧ Reads w w.heap.size 6 A acc.length vs.flatten ∧ (0 < acc.length → ∀ ad, A = some ad → lo ≤ ad.block) := by
  rcases h1.2 with ⟨rfl, e⟩ | ⟨g, cap, cur, rfl, hb, _, hc, hm, _⟩
  ·
   rw [e] at h1 ⊢
   exact ⟨none, 0, rfl, ⟨Nat.le_refl _, by decide⟩, Reads.of_own h1, fun h => absurd h (by omega)⟩
  ·
   exact ⟨_, cap, rfl, ⟨hc, hm⟩, Reads.of_own h1, fun _ ad e => by injection e with e; rw [← e]; exact hb⟩
 obtain ⟨NA, nc, e1, b1, r1, l1⟩ := hn
 obtain ⟨A, c, e2, b2, r2, l2⟩ := ha
 refine ⟨NA, nc, A, c, e1, e2, ?_⟩
 rw [JvV]
 exact ⟨NA, nc, A, c, vs, rfl, b1, b2, r1, l1, r2, l2, JvsP.toV (fun b h => h.1) acc vs h2⟩
theorem Kids.snoc {w w' : World} {lo lo2 : Nat} {nv av av' : Value} {names : List (List UInt8)} {acc : List Jv} {v : Jv} {cs : List Value} {vs : List (List Value)}
  (h0 : w.ownsRow lo 9 1 nv names.length (strVs names)) (h1 : w.ownsRow lo 26 6 av acc.length vs.flatten) (h2 : JvsP w (fun b => lo ≤ b ∧ some b ≠ av.ownBlock ∧ some b ≠ nv.ownBlock) acc vs)
  (hv : JvV w lo2 v cs) (hlo : lo ≤ lo2) (ha : ∀ q, av.ownBlock = some q → q < lo2) (hn : ∀ q, nv.ownBlock = some q → q < lo2)
  (h3 : w'.ownsRow lo 26 6 av' (acc.length + 1) (vs.flatten ++ cs)) (h4 : w.grownBy w' av.ownBlock) (h5 : av'.ownBlock = av.ownBlock ∨ av'.ownBlock = some (w.heap.size + 1)) : Kids w' lo nv names av' (acc ++ [v]) := by
 have hD : ∀ b, lo2 ≤ b → b < w.heap.size → (lo ≤ b ∧ some b ≠ av.ownBlock ∧ some b ≠ nv.ownBlock) := fun b hb _ => ⟨by omega, fun e => by have := ha b e.symm; omega, fun e => by have := hn b e.symm; omega⟩
 have h6 := JvsP.snoc (JvV.toP hD v cs hv) h2
 refine ⟨vs ++ [cs], h0.kept h4 (own_apart h0 h1 (by decide)), by rw [List.length_append, List.flatten_append]; simpa using h3, ?_⟩
 refine JvsP.keep (fun p hp hd => World.cell?_of_block (h4.block _ hp (fun e => hd.2.1 e))) (fun b hb hd => ⟨hd.1, ?_, hd.2.2⟩) h4.size _ _ h6
 rcases h5 with e | e <;> rw [e]
 ·
  exact hd.2.1
 ·
  intro e2
  injection e2 with e2
  omega
theorem Kids.name {w w' : World} {lo : Nat} {nv nv' av : Value} {names : List (List UInt8)} {acc : List Jv} {t : List UInt8} {vs : List (List Value)}
  (h0 : w.ownsRow lo 9 1 nv names.length (strVs names)) (h1 : w.ownsRow lo 26 6 av acc.length vs.flatten) (h2 : JvsP w (fun b => lo ≤ b ∧ some b ≠ av.ownBlock ∧ some b ≠ nv.ownBlock) acc vs)
  (h3 : w'.ownsRow lo 9 1 nv' (names.length + 1) (strVs names ++ [strV t])) (h4 : w.grownBy w' nv.ownBlock) (h5 : nv'.ownBlock = nv.ownBlock ∨ nv'.ownBlock = some (w.heap.size + 1)) : Kids w' lo nv' (names ++ [t]) av acc := by
 refine ⟨vs, by rw [List.length_append]; simpa [strVs] using h3, h1.kept h4 (own_apart h1 h0 (by decide)), ?_⟩
 refine JvsP.keep (fun p hp hd => World.cell?_of_block (h4.block _ hp (fun e => hd.2.2 e))) (fun b hb hd => ⟨hd.1, hd.2.1, ?_⟩) h4.size _ _ h2
 rcases h5 with e | e <;> rw [e]
 ·
  exact hd.2.2
 ·
  intro e2
  injection e2 with e2
  omega
end
section
open Go.RowKit Go.Maps
def wMark (wd : Wd) (c : UInt8) : Bool := match wd with | .mark m => decide (m = c) | _ => false
theorem loopL_err (val : Wd → List UInt8 → Got) (hv : ∀ w r e, val w r = .error e → e ≠ 0) : ∀ (f : Nat) (acc : List Jv) (w : Wd) (r : List UInt8) (e : Nat), loopL val f acc w r = .error e → e ≠ 0
 | 0, _, _, _, _, h => by simp [loopL] at h; omega
 | f + 1, acc, w, r, e, h => by
  rw [loopL] at h
  split at h
  ·
   rename_i e' he
   injection h with h
   subst h
   exact hv _ _ _ he
  ·
   split at h
   ·
    simp at h
   ·
    exact loopL_err val hv f _ _ _ _ h
   ·
    injection h with h
    omega
theorem loopO_err (val : Wd → List UInt8 → Got) (hv : ∀ w r e, val w r = .error e → e ≠ 0) : ∀ (f : Nat) (ns : List (List UInt8)) (acc : List Jv) (w : Wd) (r : List UInt8) (e : Nat), loopO val f ns acc w r = .error e → e ≠ 0
 | 0, _, _, _, _, _, h => by simp [loopO] at h; omega
 | f + 1, ns, acc, w, r, e, h => by
  rw [loopO.eq_def] at h
  split at h
  ·
   simp at *
  ·
   rename_i f' ns' acc' t' r' hf
   split at h
   ·
    injection h with h; omega
   ·
    split at h
    ·
     split at h
     ·
      rename_i e' he
      injection h with h
      subst h
      exact hv _ _ _ he
     ·
      split at h
      ·
       simp at h
      ·
       injection hf with hf
       subst hf
       exact loopO_err val hv f _ _ _ _ _ h
      ·
       injection h with h; omega
    ·
     injection h with h; omega
  ·
   injection h with h; omega
theorem valW_err : ∀ (d : Nat) (w : Wd) (r : List UInt8) (e : Nat), valW d w r = .error e → e ≠ 0
 | 0, w, r, e, h => by
  cases w with
  | mark c => simp [valW] at h; split at h <;> (injection h with h; omega)
  | none => simp [valW] at h; omega
  | phrase t => simp [valW] at h
  | number n => simp [valW] at h
  | value k b => simp [valW] at h
 | d + 1, w, r, e, h => by
  cases w with
  | mark c =>
   rw [valW] at h
   split at h
   ·
    split at h
    ·
     unfold listR at h
     split at h
     ·
      simp at h
     ·
      exact loopL_err _ (fun w r e => valW_err d w r e) _ _ _ _ _ h
    ·
     unfold objR at h
     split at h
     ·
      simp at h
     ·
      exact loopO_err _ (fun w r e => valW_err d w r e) _ _ _ _ _ _ h
   ·
    injection h with h; omega
  | none => simp [valW] at h; omega
  | phrase t => simp [valW] at h
  | number n => simp [valW] at h
  | value k b => simp [valW] at h
def wordMz (g : Nat) (s : ByteArray) (wv : Value) (wr : World) : Nat := match wv with | .nilIface => 0 | _ => 1 + s.size - (match wr.cell? ⟨g, 1, none⟩ with | some (.int _ n) => n.toNat | _ => 0)
theorem wordMz_eq {g q : Nat} {s : ByteArray} {wd : Wd} {wr : World} (h : PAt wr g s q) (hw : wd ≠ .none) : wordMz g s (wordV wd) wr = 1 + s.size - q := by
 have := h.facts.2.1
 cases wd <;> simp [wordMz, wordV, this] at *
theorem wordMz_len {g q : Nat} {s : ByteArray} {wd : Wd} {wr : World} {rest : List UInt8} (h : PAt wr g s q) (hw : wd ≠ .none) (hd : s.data.toList.drop q = rest) : wordMz g s (wordV wd) wr = 1 + rest.length := by
 have h1 := h.2.1
 have h2 : s.data.toList.length = s.size := by simp
 rw [wordMz_eq h hw, ← hd, List.length_drop, h2]
 omega
theorem wordMz_le {g q : Nat} {s : ByteArray} {wd : Wd} {wr : World} {rest : List UInt8} (h : PAt wr g s q) (hd : wd ≠ .none → s.data.toList.drop q = rest) : wordMz g s (wordV wd) wr ≤ 1 + rest.length := by
 by_cases hw : wd = .none
 ·
  subst hw
  exact Nat.zero_le _
 ·
  exact Nat.le_of_eq (wordMz_len h hw (hd hw))
theorem word_eq (wd : Wd) (c : UInt8) (W : World) : (binOp .eql 107 (wordV wd) (.iface 136 (.int .u8 (c.toNat : Int)))).run Tryz.prog W = .ok (.bool (wMark wd c)) W := by
 cases wd with
 | mark m =>
  have h := u8_beq m c
  show _ = Result.ok (Value.bool (decide (m = c))) W
  rw [← h]
  kernel_rfl
 | none => kernel_rfl
 | phrase t => kernel_rfl
 | number n => kernel_rfl
 | value k b => kernel_rfl
theorem word_guard (wd : Wd) (c : UInt8) (x y : Operand) (W : World) : (eqGuard .eql 107 x y (wordV wd) (.iface 136 (.int .u8 (c.toNat : Int)))).run Tryz.prog W = .ok () W := by
 cases wd with
 | mark m => simp [wordV, eqGuard]
 | none => simp [wordV, eqGuard]
 | phrase t => simp [wordV, eqGuard]
 | number n => simp [wordV, eqGuard]
 | value k b => simp [wordV, eqGuard]
theorem kids_done {g : Nat} {s : ByteArray} {r : Got} {w w6 : World} {kind : Int} {names : List (List UInt8)} {acc : List Jv} {r2 : List UInt8} {nv av : Value} {NA : Option Addr} {nn nc : Nat} {A : Option Addr} {m c q : Nat} (hgl : g < w.heap.size)
  (hr : r = .ok (.mk kind false 0 [] names acc, r2)) (hk : Kids w6 (w.heap.size + 2) nv names av acc) (hn : nv = .slice NA nn nc) (ha : av = .slice A m c) (hp : PAt w6 g s q) (hd : s.data.toList.drop q = r2) (hg : w.grownBy w6 (some g)) (cells : Array Value) :
  ValR g s r w (.returned (.tuple #[.agg #[.int .i64 kind, .bool false, .int .i64 0, .string ⟨#[]⟩, .slice NA nn nc, .slice A m c], .int .i64 0])) (w6.setRow w.heap.size cells) := by
 obtain ⟨NAx, ncx, Ax, cx, e1, e2, hjv⟩ := hk.value kind false 0 []
 rw [hn] at e1
 rw [ha] at e2
 injection e1 with e1 e1' e1''
 injection e2 with e2 e2' e2''
 subst e1 e1' e1'' e2 e2' e2'' hr
 have hsr := setRow_only w6 w.heap.size cells
 exact ⟨_, q, rfl, (hjv.grown hsr (fun q e => by injection e with e; omega)).low (by omega), hp.grown hsr (by simp; omega), hd, grown_then hg hsr (fun q e => .inr (by injection e with e; omega))⟩
set_option maxHeartbeats 16000000 in
theorem list_many (d : Nat) (hval : ValOk d) : ManyOk 105 listR d := by
 intro g s p B deep w hB hL hP hdd
 have hgl := hP.lt
 have hsm := hP.2.2
 have h1 := (Below.refl w.heap.size w).alloc (Nat.le_refl _) (.cells #[.int .i64 0, .bool false, .int .i64 0, .string ⟨#[]⟩, .slice none 0 0, .slice none 0 0] 26)
 have h2 := h1.alloc (by simp) (.cells #[.int .i64 5, .bool false, .int .i64 0, .string ⟨#[]⟩, .slice none 0 0, .slice none 0 0] 26)
 have hk1 := (Blk.new w 26 #[.int .i64 0, .bool false, .int .i64 0, .string ⟨#[]⟩, .slice none 0 0, .slice none 0 0]).below ((Below.refl (w.heap.size + 1) _).alloc (by simp) (.cells #[.int .i64 5, .bool false, .int .i64 0, .string ⟨#[]⟩, .slice none 0 0, .slice none 0 0] 26)) (by omega)
 have hk2 : Blk ((w.alloc (.cells #[.int .i64 0, .bool false, .int .i64 0, .string ⟨#[]⟩, .slice none 0 0, .slice none 0 0] 26)).alloc (.cells #[.int .i64 5, .bool false, .int .i64 0, .string ⟨#[]⟩, .slice none 0 0, .slice none 0 0] 26)) (w.heap.size + 1) 26 #[.int .i64 5, .bool false, .int .i64 0, .string ⟨#[]⟩, .slice none 0 0, .slice none 0 0] := by
  have := Blk.new (w.alloc (.cells #[.int .i64 0, .bool false, .int .i64 0, .string ⟨#[]⟩, .slice none 0 0, .slice none 0 0] 26)) 26 #[.int .i64 5, .bool false, .int .i64 0, .string ⟨#[]⟩, .slice none 0 0, .slice none 0 0]
  simpa using this
 have hk1' := Lib.hid hk1
 have HK2 := Lib.hid hk2
 have cn := Lib.hid (jnext_walk g s p B hB _ (hL.grown (below_row h2 none) (by simp)) (hP.below h2))
 have HB3 := Lib.hid h2
 have HL := Lib.hid hL
 have HVAL := Lib.hid hval
 clear h1 h2 hk1 hk2 hL hP hval
 go_enter Tryz.func105, Tryz.ntmps105
 go_wp2_with fail
 refine (cn.out).mono ?_
 rintro _ w1 ⟨q, rfl, hP, hd, hg⟩
 have HP := Lib.hid hP
 have HD := Lib.hid hd
 have HG := Lib.hid (grown_then (below_row HB3.out (some g)) hg (fun q e => .inl (by injection e with e; exact e.symm)))
 have HK1 := Lib.hid (hk1'.out.grown hg (by simp; omega))
 have HK2b := Lib.hid (HK2.out.grown hg (by simp; omega))
 have hsz1 := hg.size
 clear hP hd hg cn hk1' HK2 HB3
 obtain ⟨wd0, r0, hw0⟩ : ∃ wd0 r0, wordR (s.data.toList.drop p) = (wd0, r0) := ⟨_, _, rfl⟩
 have HW0 := Lib.hid hw0
 rw [hw0] at HD
 simp only [hw0]
 have hlen0 : r0.length ≤ s.data.toList.length - p := by
  have := wordR_any (s.data.toList.drop p)
  rw [hw0, List.length_drop] at this
  exact this
 have hslen : s.data.toList.length = s.size := by simp
 have q1 : ∀ W, (binOp .eql 107 (wordV wd0) (.iface 136 (.int .u8 93))).run Tryz.prog W = .ok (.bool (wMark wd0 93)) W := fun W => word_eq wd0 93 W
 have q2 : ∀ x y W, (eqGuard .eql 107 x y (wordV wd0) (.iface 136 (.int .u8 93))).run Tryz.prog W = .ok () W := fun x y W => word_guard wd0 93 x y W
 cases hm : wMark wd0 93
 case true =>
  rw [hm] at q1
  obtain ⟨rfl⟩ : wd0 = .mark 93 := by
   cases wd0 <;> simp [wMark] at hm
   rw [hm]
  have hv : Hid (listR (valW d) (s.data.toList.drop p) = .ok (.mk 5 false 0 [] [] [], r0)) := by show _ = _; unfold listR; rw [HW0.out]; rfl
  clear hm hw0 HW0
  have hx6 := six_cells HK2b.out
  obtain ⟨l0, l1, l2, l3, l4, l5⟩ := hx6
  generalize wordV (.mark 93) = wv at *
  go_wp2_with (first | refine wpList_load_at rfl 26 _ rfl ⟨w.heap.size + 1, 0, none⟩ rfl [.int .i64 5, .bool false, .int .i64 0, .string ⟨#[]⟩, .slice none 0 0, .slice none 0 0] _ (blk_cells HK2b.out) Tryz.underlying26 rfl jv_size ?_ | refine wpList_store_blk rfl 26 _ _ rfl w.heap.size _ #[.int .i64 5, .bool false, .int .i64 0, .string ⟨#[]⟩, .slice none 0 0, .slice none 0 0] 26 rfl rfl HK1.out rfl jv_size (jv_ones _ _ _ _ _ _ _ _ _ _) ?_)
  refine bodyPost_ret (results_j_t Tryz.results105 _ _ w.heap.size _ _ _ _ _ _ rfl HK1.out.setRow) rfl ?_
  have hsr := setRow_only w1 w.heap.size #[.int .i64 5, .bool false, .int .i64 0, .string ⟨#[]⟩, .slice none 0 0, .slice none 0 0]
  rw [hv.out]
  exact ⟨_, q, rfl, jv_leaf _ _ _ _ _ _, HP.out.grown hsr (by simp; omega), HD.out (by simp), grown_then HG.out hsr (fun q e => .inr (by injection e with e; omega))⟩
 case false =>
  rw [hm] at q1
  have hv : Hid (listR (valW d) (s.data.toList.drop p) = loopL (valW d) ((s.data.toList.drop p).length + 1) [] wd0 r0) := by
   show _ = _
   unfold listR
   rw [HW0.out]
   cases wd0 with
   | mark c =>
    have : c ≠ 93 := by simpa [wMark] using hm
    split
    ·
     rename_i r2 h2
     injection h2 with h2 _
     injection h2 with h2
     exact absurd h2 this
    ·
     rename_i w' r' _ h2
     injection h2 with h2 h3
     subst h2 h3
     rfl
   | _ => rfl
  have hf0 : r0.length < (s.data.toList.drop p).length + 1 := by rw [List.length_drop]; omega
  clear hm hw0 HW0
  generalize hwv0 : wordV wd0 = wv at *
  go_wp2_with fail
  clear q1 q2
  go_loopw [7] (fun wv wr => ∃ (f q : Nat) (wd : Wd) (rest : List UInt8) (acc : List Jv) (av : Value), Hid (wv = wordV wd) ∧ Hid (PAt wr g s q) ∧ Hid (wd ≠ .none → s.data.toList.drop q = rest) ∧ Hid (listR (valW d) (s.data.toList.drop p) = loopL (valW d) f acc wd rest) ∧ rest.length < f ∧ acc.length + rest.length ≤ s.size ∧ Hid (Blk wr w.heap.size 26 #[.int .i64 0, .bool false, .int .i64 0, .string ⟨#[]⟩, .slice none 0 0, .slice none 0 0]) ∧ Hid (Blk wr (w.heap.size + 1) 26 #[.int .i64 5, .bool false, .int .i64 0, .string ⟨#[]⟩, .slice none 0 0, av]) ∧ Hid (Kids wr (w.heap.size + 2) (.slice none 0 0) [] av acc) ∧ Hid (w.grownBy wr (some g)) ∧ w.heap.size + 2 ≤ wr.heap.size) (fun wv wr => wordMz g s wv wr)
  case atStart => exact ⟨_, q, wd0, r0, [], _, hwv0.symm, HP, HD, hv, hf0, by simp; omega, HK1, HK2b, Kids.nil _ _, HG, by simpa using hsz1⟩
  case round =>
   clear HP HD HK1 HK2b HG hv hwv0 hf0 hlen0 hsz1
   obtain ⟨f, q, wd, rest, acc, av, hwv, hP, hD, hv, hf, hal, hb1, hb2, hk, hg, hsz⟩ := hrel
   obtain ⟨f, rfl⟩ : ∃ f', f = f' + 1 := ⟨f - 1, by omega⟩
   have HWV := Lib.hid hwv.out
   clear hwv
   have cv := Lib.hid (HVAL.out g s q B wd rest deep wr hB (HL.out.grown hg.out (fun q e => by injection e with e; omega)) hP.out hD.out hdd)
   rw [← HWV.out] at cv
   go_wp2_with fail
   refine cv.out.mono ?_
   rintro e w2 hw
   cases hr : valW d wd rest with
   | error er =>
    have her := valW_err d wd rest er hr
    rw [hr] at hw
    obtain ⟨k, b, n, st, NA, nn, nc, A, m, cc, rfl, hg2⟩ := hw
    have HG2 := Lib.hid (grown_then hg.out hg2 (fun q e => .inl (by injection e with e; exact e.symm)))
    have hv2 : Hid (listR (valW d) (s.data.toList.drop p) = .error er) := by show _ = _; rw [hv.out, loopL, hr]
    have HB1 := Lib.hid (hb1.out.grown hg2 (by simp; omega))
    have HB2 := Lib.hid (hb2.out.grown hg2 (by simp; omega))
    obtain ⟨_, _, A9, c9, _, rfl, _⟩ := (hk.out.grown hg2 (fun q e => by injection e with e; omega)).value 5 false 0 []
    have e1 : ((er : Int) == 0) = false := by simp; omega
    have e2 : ((er : Int) != 0) = true := by simp; omega
    have hsz2 := hg2.size
    have hal3 := (Below.refl w2.heap.size w2).alloc (Nat.le_refl _) (.cells #[.int .i64 k, .bool b, .int .i64 n, .string st, .slice NA nn nc, .slice A m cc] 26)
    have HC1 := Lib.hid (HB1.out.below hal3 HB1.out.lt)
    have HC2 := Lib.hid (HB2.out.below hal3 HB2.out.lt)
    have HG3 := Lib.hid (grown_below2 HG2.out hal3)
    obtain ⟨l0, l1, l2, l3, l4, l5⟩ := six_cells HC2.out
    clear hg hb1 hb2 hk hg2 hv hr cv HWV HVAL HB1 HB2 hal3 HG2
    go_wp2_with (first | refine wpList_load_at rfl 26 _ rfl ⟨w.heap.size + 1, 0, none⟩ rfl [.int .i64 5, .bool false, .int .i64 0, .string ⟨#[]⟩, .slice none 0 0, .slice A9 acc.length c9] _ (blk_cells HC2.out) Tryz.underlying26 rfl jv_size ?_ | refine wpList_store_blk rfl 26 _ _ rfl w.heap.size _ #[.int .i64 5, .bool false, .int .i64 0, .string ⟨#[]⟩, .slice none 0 0, .slice A9 acc.length c9] 26 rfl rfl HC1.out rfl jv_size (jv_ones _ _ _ _ _ _ _ _ _ _) ?_)
    refine bodyPost_ret (results_j_t Tryz.results105 _ _ w.heap.size _ _ _ _ _ _ rfl HC1.out.setRow) rfl ?_
    exact valR_err hv2.out _ _ _ _ _ _ _ _ _ _ rfl (grown_then HG3.out (setRow_only _ w.heap.size _) (fun q e => .inr (by injection e with e; omega)))
   | ok vr =>
    obtain ⟨v, r1⟩ := vr
    have hwn : wd ≠ .none := by rintro rfl; cases d <;> simp [valW] at hr
    have hmz : Hid (wordMz g s u7 wr = 1 + rest.length) := by show _ = _; rw [HWV.out]; exact wordMz_len hP.out hwn (hD.out hwn)
    rw [hr] at hw
    obtain ⟨cs, q2, rfl, hvv, hP2, hd2, hg2⟩ := hw
    obtain ⟨k, b, n, st, NA, nn, nc, A, m, cc, rfl⟩ := hvv.form
    have hal3 := (Below.refl w2.heap.size w2).alloc (Nat.le_refl _) (.cells #[.int .i64 k, .bool b, .int .i64 n, .string st, .slice NA nn nc, .slice A m cc] 26)
    have hsz2 := hg2.size
    have HG3 := Lib.hid (grown_below2 (grown_then hg.out hg2 (fun q e => .inl (by injection e with e; exact e.symm))) hal3)
    have HC1 := Lib.hid ((hb1.out.grown hg2 (by simp; omega)).below hal3 (by omega))
    have HC2 := Lib.hid ((hb2.out.grown hg2 (by simp; omega)).below hal3 (by omega))
    have HP3 := Lib.hid (hP2.below hal3)
    have HV3 := Lib.hid (hvv.below hal3)
    have hk3 := (hk.out.grown hg2 (fun q e => by injection e with e; omega)).grown (below_row hal3 none) (by simp)
    have hle1 := valW_le d wd rest v r1 hr
    have HD2 := Lib.hid hd2
    have c5 := HC2.out.cell 5
    have f5 := HC2.out.frozen 5
    have hv1 : Hid (listR (valW d) (s.data.toList.drop p) = match wordR r1 with | (.mark 93, r2) => .ok (.mk 5 false 0 [] [] (acc ++ [v]), r2) | (.mark 44, r2) => loopL (valW d) f (acc ++ [v]) (wordR r2).1 (wordR r2).2 | _ => .error 3) := by show _ = _; rw [hv.out, loopL, hr]; rfl
    have hav : ∀ q, av.ownBlock = some q → q < wr.heap.size := by
     obtain ⟨_, _, h1, _⟩ := hk.out
     exact fun q e => (h1.lt q e).2
    obtain ⟨vs, ho0, ho1, hjs⟩ := hk3
    have HO0 := Lib.hid ho0
    have HO1 := Lib.hid ho1
    have HJS := Lib.hid hjs
    obtain ⟨i0, hi, hz0, hz1, hz2⟩ := infoS4 info_jv
    clear hg hb1 hb2 hk hg2 hv hr cv HWV hal3 hP2 hvv hd2 ho0 ho1 hjs
    have hsz3 : w.heap.size + 2 ≤ (w2.alloc (.cells #[.int .i64 k, .bool b, .int .i64 n, .string st, .slice NA nn nc, .slice A m cc] 26)).heap.size := by simp; omega
    obtain ⟨l0, l1, l2, l3, l4, l5⟩ := six_cells (Blk.new w2 26 #[.int .i64 k, .bool b, .int .i64 n, .string st, .slice NA nn nc, .slice A m cc])
    generalize hW : w2.alloc (.cells #[.int .i64 k, .bool b, .int .i64 n, .string st, .slice NA nn nc, .slice A m cc] 26) = W3 at *
    go_wp2_with (at_builtin; go_loud (refine wpList_append_at W3 rfl (.tmp 31) (.tmp 33) 24 rfl (w.heap.size + 2) 26 i0 (.agg (cells6 0 false 0 [] none 0 0 none 0 0).toArray) 6 88 Tryz.underlying24 hi hz0 hz1 hz2 rfl (by decide) av acc.length _ rfl HO1.out _ rfl rfl (by simp [Value.oneCell']) (by unfold maxLen; omega) (by omega) (by omega) ?_); intro av2 w4 ho4 hg4 hat4; obtain ⟨A2, c2, rfl, hc2, hr2⟩ := own_reads ho4 (Nat.le_refl _); have hx4 := HC2.out.grown hg4 (fun e => by have := (HO1.out.lt _ e.symm).1; omega); have c54 := hx4.cell 5; have f54 := hx4.frozen 5; clear hr2)
    have hav2 : ∀ q, av.ownBlock = some q → w.heap.size + 2 ≤ q := fun q e => (HO1.out.lt q e).1
    obtain ⟨w5, hw5⟩ : ∃ w5, w4.setCell ⟨w.heap.size + 1, 5, none⟩ (.slice A2 (acc.length + 1) c2) = w5 := ⟨_, rfl⟩
    have hg5 : w4.grownBy w5 (some (w.heap.size + 1)) := by rw [← hw5]; exact ⟨rfl, rfl, rfl, by simp, fun q _ hne => Below.heap_setCell _ _ _ _ (fun e => hne (by rw [e]))⟩
    have hset := hx4.set_ 5 (.slice A2 (acc.length + 1) c2)
    rw [hw5] at hset ⊢
    have HC2b : Hid (Blk w5 (w.heap.size + 1) 26 #[.int .i64 5, .bool false, .int .i64 0, .string ⟨#[]⟩, .slice none 0 0, .slice A2 (acc.length + 1) c2]) := hset
    have HC1b := Lib.hid ((HC1.out.grown hg4 (fun e => by have := hav2 _ e.symm; omega)).grown hg5 (by simp))
    have hp5 := (HP3.out.grown hg4 (fun e => by have := hav2 _ e.symm; omega)).grown hg5 (by simp; omega)
    have HG5 := Lib.hid (grown_then (grown_then HG3.out hg4 (fun q e => .inr (by have := hav2 _ e; omega))) hg5 (fun q e => .inr (by injection e with e; omega)))
    have HK5 := Lib.hid ((Kids.snoc HO0.out HO1.out HJS.out HV3.out (by omega) hav (fun q e => by simp [Value.ownBlock] at e) ho4 hg4 hat4).grown hg5 (fun q e => by injection e with e; omega))
    have cn2 := jnext_walk g s q2 B hB w5 (HL.out.grown HG5.out (fun q e => by injection e with e; omega)) hp5
    rw [HD2.out] at cn2
    have CN2 := Lib.hid cn2
    have hsz5 : w.heap.size + 2 ≤ w5.heap.size := Nat.le_trans (Nat.le_trans hsz3 hg4.size) hg5.size
    have hq2 : q2 ≤ s.size := HP3.out.2.1
    have hr1 : r1.length = s.size - q2 := by rw [← HD2.out, List.length_drop, hslen]
    clear cn2 hset hg5 hw5 hx4 hg4 hat4 ho4 c54 f54 hp5 HC1 HC2 HP3 HG3 HO0 HO1 HJS HV3 hW hav hav2 c5 f5 l0 l1 l2 l3 l4 l5 hi hz0 hz1 hz2
    obtain ⟨wd2, r2, hw2⟩ : ∃ wd2 r2, wordR r1 = (wd2, r2) := ⟨_, _, rfl⟩
    have hlt2 := wordR_lt r1
    rw [hw2] at hlt2
    rw [hw2] at CN2
    have hv1' : Hid (listR (valW d) (s.data.toList.drop p) = match ((wd2, r2) : Wd × List UInt8) with | (.mark 93, r2) => .ok (.mk 5 false 0 [] [] (acc ++ [v]), r2) | (.mark 44, r2) => loopL (valW d) f (acc ++ [v]) (wordR r2).1 (wordR r2).2 | _ => .error 3) := by
     show _ = _
     rw [← hw2]
     exact hv1.out
    clear hv1 hw2
    refine CN2.out.mono ?_
    rintro _ w6 ⟨q3, rfl, hP6, hd6, hg6⟩
    have HP6 := Lib.hid hP6
    have HD6 := Lib.hid hd6
    have HG6 := Lib.hid (grown_then HG5.out hg6 (fun q e => .inl (by injection e with e; exact e.symm)))
    have HC1c := Lib.hid (HC1b.out.grown hg6 (by simp; omega))
    have HC2c := Lib.hid (HC2b.out.grown hg6 (by simp; omega))
    have HK6 := Lib.hid (HK5.out.grown hg6 (fun q e => by injection e with e; omega))
    have hsz6 : w.heap.size + 2 ≤ w6.heap.size := Nat.le_trans hsz5 hg6.size
    have ce := Lib.hid (ends_walk wd2 93)
    clear hP6 hd6 hg6 HG5 HC1b HC2b HK5 CN2
    have hx6 := six_cells HC2c.out
    obtain ⟨l0, l1, l2, l3, l4, l5⟩ := hx6
    by_cases hc1 : wd2 = .mark 93
    ·
     subst hc1
     have hv2 : Hid (listR (valW d) (s.data.toList.drop p) = .ok (.mk 5 false 0 [] [] (acc ++ [v]), r2)) := hv1'.out
     generalize wordV (.mark 93) = wv2 at *
     go_wp2_with fail
     refine (ce.out _).mono ?_
     rintro _ w7 ⟨rfl, rfl⟩
     simp only [show endsB (.mark 93) 93 = (true, true) from rfl]
     go_wp2_with (first | refine wpList_load_at rfl 26 _ rfl ⟨w.heap.size + 1, 0, none⟩ rfl [.int .i64 5, .bool false, .int .i64 0, .string ⟨#[]⟩, .slice none 0 0, .slice A2 (acc.length + 1) c2] _ (blk_cells HC2c.out) Tryz.underlying26 rfl jv_size ?_ | refine wpList_store_blk rfl 26 _ _ rfl w.heap.size _ #[.int .i64 5, .bool false, .int .i64 0, .string ⟨#[]⟩, .slice none 0 0, .slice A2 (acc.length + 1) c2] 26 rfl rfl HC1c.out rfl jv_size (jv_ones _ _ _ _ _ _ _ _ _ _) ?_)
     refine bodyPost_ret (results_j_t Tryz.results105 _ _ w.heap.size _ _ _ _ _ _ rfl HC1c.out.setRow) rfl ?_
     exact kids_done hgl hv2.out HK6.out rfl rfl HP6.out (HD6.out (by simp)) HG6.out _
    ·
     by_cases hc2 : wd2 = .mark 44
     ·
      subst hc2
      have hl2 : r2.length < r1.length := by
       rcases hlt2 with h | h
       ·
        exact absurd h.1 (by simp)
       ·
        exact h
      have hd6' : s.data.toList.drop q3 = r2 := HD6.out (by simp)
      have hv2 : Hid (listR (valW d) (s.data.toList.drop p) = loopL (valW d) f (acc ++ [v]) (wordR r2).1 (wordR r2).2) := hv1'.out
      have cn3 := jnext_walk g s q3 B hB w6 (HL.out.grown HG6.out (fun q e => by injection e with e; omega)) HP6.out
      rw [hd6'] at cn3
      have CN3 := Lib.hid cn3
      clear cn3 hv1' hlt2 hc1 HP6 HD6
      generalize wordV (.mark 44) = wv2 at *
      go_wp2_with fail
      refine (ce.out _).mono ?_
      rintro _ w7 ⟨rfl, rfl⟩
      simp only [show endsB (.mark 44) 93 = (false, true) from rfl]
      go_wp2_with fail
      refine CN3.out.mono ?_
      rintro _ w8 ⟨q4, rfl, hP8, hd8, hg8⟩
      have HP8 := Lib.hid hP8
      have HD8 := Lib.hid hd8
      have HG8 := Lib.hid (grown_then HG6.out hg8 (fun q e => .inl (by injection e with e; exact e.symm)))
      have HC1d := Lib.hid (HC1c.out.grown hg8 (by simp; omega))
      have HC2d := Lib.hid (HC2c.out.grown hg8 (by simp; omega))
      have HK8 := Lib.hid (HK6.out.grown hg8 (fun q e => by injection e with e; omega))
      have hsz8 : w.heap.size + 2 ≤ w8.heap.size := Nat.le_trans hsz6 hg8.size
      clear hP8 hd8 hg8 HG6 HC1c HC2c HK6 CN3 l0 l1 l2 l3 l4 l5
      go_wp2_with fail
      have hra := wordR_any r2
      refine ⟨⟨f, q4, (wordR r2).1, (wordR r2).2, acc ++ [v], _, rfl, HP8, HD8, hv2, by omega, by simp; omega, HC1d, HC2d, HK8, HG8, hsz8⟩, ?_⟩
      rw [hmz.out]
      exact Nat.lt_of_le_of_lt (wordMz_le HP8.out HD8.out) (by omega)
     ·
      have hee : endsB wd2 93 = (false, false) := by
       cases wd2 with
       | mark m =>
        have h1 : m ≠ 93 := fun e => hc1 (by rw [e])
        have h2 : m ≠ 44 := fun e => hc2 (by rw [e])
        simp [endsB, h1, h2]
       | _ => rfl
      have hv2 : Hid (listR (valW d) (s.data.toList.drop p) = .error 3) := by
       show _ = _
       rw [hv1'.out]
       split
       ·
        rename_i h; injection h with h1 h2; exact absurd h1 hc1
       ·
        rename_i h; injection h with h1 h2; exact absurd h1 hc2
       ·
        rfl
      rw [hee] at ce
      clear hv1' hlt2 hc1 hc2 HD6 hee
      simp only
      generalize wordV wd2 = wv2 at *
      go_wp2_with fail
      refine (ce.out _).mono ?_
      rintro _ w7 ⟨rfl, rfl⟩
      go_wp2_with (first | refine wpList_load_at rfl 26 _ rfl ⟨w.heap.size + 1, 0, none⟩ rfl [.int .i64 5, .bool false, .int .i64 0, .string ⟨#[]⟩, .slice none 0 0, .slice A2 (acc.length + 1) c2] _ (blk_cells HC2c.out) Tryz.underlying26 rfl jv_size ?_ | refine wpList_store_blk rfl 26 _ _ rfl w.heap.size _ #[.int .i64 5, .bool false, .int .i64 0, .string ⟨#[]⟩, .slice none 0 0, .slice A2 (acc.length + 1) c2] 26 rfl rfl HC1c.out rfl jv_size (jv_ones _ _ _ _ _ _ _ _ _ _) ?_)
      refine bodyPost_ret (results_j_t Tryz.results105 _ _ w.heap.size _ _ _ _ _ _ rfl HC1c.out.setRow) rfl ?_
      exact valR_err hv2.out _ _ _ _ _ _ _ _ _ _ rfl (grown_then HG6.out (setRow_only _ w.heap.size _) (fun q e => .inr (by injection e with e; omega)))
end
end Go.Proofs.YtieppmppdmcleaaGreatDoor

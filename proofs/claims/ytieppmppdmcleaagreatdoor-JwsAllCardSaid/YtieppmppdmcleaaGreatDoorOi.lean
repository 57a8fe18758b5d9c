/- countersignref12's reader: many: what its loop knows, and the plain law of a round. Condition: a text of at most 1000000 bytes. -/
import Derived.Test.YtieppmppdmcleaaGreatDoorB0
import Derived.Test.YtieppmppdmcleaaGreatDoorLc
set_option linter.unusedVariables false
set_option linter.unusedSimpArgs false
set_option maxRecDepth 20000
namespace Go.Proofs.YtieppmppdmcleaaGreatDoor
open Go.RowKit Go.Maps
theorem wordR_mark {l r : List UInt8} {c : UInt8} (h : skipB l = c :: r) (hm : isMark c = true) : wordR l = (.mark c, r) := by rw [wordR_of h, wordR_mk r hm]
theorem wordR_unmark {l : List UInt8} {c : UInt8} (h : atB (skipB l) c = false) : (wordR l).1 ≠ .mark c := by
 intro e
 cases hl : skipB l with
 | nil => rw [wordR_nil hl] at e; cases e
 | cons x r =>
  rw [hl] at h
  have hx : x ≠ c := by simpa [atB] using h
  rw [wordR_cons hl] at e
  split at e
  ·
   injection e with e; exact hx e
  ·
   split at e
   ·
    unfold textW at e; split at e <;> cases e
   ·
    split at e
    ·
     unfold numW at e; split at e <;> cases e
    ·
     unfold nameR at e
     split at e
     ·
      cases e
     ·
      split at e
      ·
       cases e
      ·
       split at e <;> cases e
theorem wordR_skip (l : List UInt8) : wordR (skipB l) = wordR l := by
 cases hl : skipB l with
 | nil => rw [wordR_nil hl]; rfl
 | cons x r => exact (wordR_of hl).symm
theorem skip_skip (l : List UInt8) : skipB (skipB l) = skipB l := by
 cases hl : skipB l with
 | nil => rfl
 | cons x r => exact skipB_no (skip_first hl)
theorem rd_val_lt {d : Nat} {l r1 : List UInt8} {v : Jv} (h : valW d (wordR l).1 (wordR l).2 = .ok (v, r1)) : r1.length < l.length := by
 rcases wordR_lt l with ⟨e, _⟩ | e
 ·
  rw [e] at h
  cases d <;> simp [valW] at h
 ·
  have := valW_le _ _ _ _ _ h
  omega
section
variable {val : Wd → List UInt8 → Got} {f : Nat} {names : List (List UInt8)} {acc : List Jv} {l r r1 r2 t : List UInt8} {v : Jv} {e : Nat}
theorem rd_loopL_err (h : val (wordR l).1 (wordR l).2 = .error e) : loopL val (f + 1) acc (wordR l).1 (wordR l).2 = .error e := by rw [loopL, h]
theorem rd_loopL_end (h : val (wordR l).1 (wordR l).2 = .ok (v, r1)) (hs : skipB r1 = 93 :: r2) : loopL val (f + 1) acc (wordR l).1 (wordR l).2 = .ok (.mk 5 false 0 [] [] (acc ++ [v]), r2) := by
 rw [loopL, h]; simp only; rw [wordR_mark hs (by decide +kernel)]; rfl
theorem rd_loopL_next (h : val (wordR l).1 (wordR l).2 = .ok (v, r1)) (hs : skipB r1 = 44 :: r2) : loopL val (f + 1) acc (wordR l).1 (wordR l).2 = loopL val f (acc ++ [v]) (wordR r2).1 (wordR r2).2 := by
 rw [loopL, h]; simp only; rw [wordR_mark hs (by decide +kernel)]; rfl
theorem rd_loopL_bad (h : val (wordR l).1 (wordR l).2 = .ok (v, r1)) (h1 : atB (skipB r1) 93 = false) (h2 : atB (skipB r1) 44 = false) : loopL val (f + 1) acc (wordR l).1 (wordR l).2 = .error 3 := by
 rw [loopL, h]
 simp only
 have e1 := wordR_unmark h1
 have e2 := wordR_unmark h2
 split
 ·
  rename_i hw; rw [hw] at e1; exact absurd rfl e1
 ·
  rename_i hw; rw [hw] at e2; exact absurd rfl e2
 ·
  rfl
theorem rd_listR_end (hs : skipB l = 93 :: r2) : listR val l = .ok (.mk 5 false 0 [] [] [], r2) := by rw [listR, wordR_mark hs (by decide +kernel)]; rfl
theorem rd_listR_loop (h1 : atB (skipB l) 93 = false) : listR val l = loopL val (l.length + 1) [] (wordR l).1 (wordR l).2 := by
 rw [listR]
 have e1 := wordR_unmark h1
 split
 ·
  rename_i hw; rw [hw] at e1; exact absurd rfl e1
 ·
  rename_i hw; rw [hw]
theorem rd_objR_end (hs : skipB l = 125 :: r2) : objR val l = .ok (.mk 6 false 0 [] [] [], r2) := by rw [objR, wordR_mark hs (by decide +kernel)]; rfl
theorem rd_objR_loop (h1 : atB (skipB l) 125 = false) : objR val l = loopO val (l.length + 1) [] [] (wordR l).1 (wordR l).2 := by
 rw [objR]
 have e1 := wordR_unmark h1
 split
 ·
  rename_i hw; rw [hw] at e1; exact absurd rfl e1
 ·
  rename_i hw; rw [hw]
theorem quote_word (h : quoteR l = some (t, r)) : wordR l = (.phrase t, r) := by
 unfold quoteR at h
 split at h
 ·
  rename_i ha
  obtain ⟨r0, hr⟩ := atB_true ha
  rw [hr] at h
  rw [wordR_cons hr, if_neg (by decide), if_pos rfl, textW, show textR r0 = some (t, r) from h]
 ·
  cases h
theorem quote_lt (h : quoteR l = some (t, r)) : r.length < l.length := by
 unfold quoteR at h
 split at h
 ·
  rename_i ha
  obtain ⟨r0, hr⟩ := atB_true ha
  rw [hr] at h
  have h1 := strR_le _ _ _ _ _ (show strR (r0.length + 1) [] r0 = some (t, r) from h)
  have h2 := skipB_le l
  rw [hr] at h2
  simp only [List.length_cons] at h2
  omega
 ·
  cases h
theorem quote_none (h : quoteR l = none) : ∀ t, (wordR l).1 ≠ .phrase t := by
 intro t e
 unfold quoteR at h
 cases hl : skipB l with
 | nil => rw [wordR_nil hl] at e; cases e
 | cons x r =>
  rw [hl] at h
  rw [wordR_cons hl] at e
  split at e
  ·
   cases e
  ·
   split at e
   ·
    rename_i hx
    rw [hx] at h
    rw [if_pos (by simp [atB])] at h
    rw [textW, show textR r = none from h] at e
    cases e
   ·
    split at e
    ·
     unfold numW at e; split at e <;> cases e
    ·
     unfold nameR at e
     split at e
     ·
      cases e
     ·
      split at e
      ·
       cases e
      ·
       split at e <;> cases e
theorem rd_loopO_none (h : quoteR l = none) : loopO val (f + 1) names acc (wordR l).1 (wordR l).2 = .error 3 := by
 have hn := quote_none h
 cases hw : (wordR l).1 with
 | phrase t => exact absurd hw (hn t)
 | none => rfl
 | mark c => rfl
 | number n => rfl
 | value k b => rfl
theorem rd_loopO_twice (h : quoteR l = some (t, r)) (hc : names.contains t = true) : loopO val (f + 1) names acc (wordR l).1 (wordR l).2 = .error 6 := by
 rw [quote_word h, loopO, if_pos hc]
theorem rd_loopO_colon (h : quoteR l = some (t, r)) (hc : names.contains t = false) (h1 : atB (skipB r) 58 = false) : loopO val (f + 1) names acc (wordR l).1 (wordR l).2 = .error 3 := by
 rw [quote_word h, loopO, if_neg (by rw [hc]; simp)]
 have e1 := wordR_unmark h1
 split
 ·
  rename_i hw; rw [hw] at e1; exact absurd rfl e1
 ·
  rfl
theorem rd_loopO_err (h : quoteR l = some (t, r)) (hc : names.contains t = false) (h1 : skipB r = 58 :: r1) (hv : val (wordR r1).1 (wordR r1).2 = .error e) : loopO val (f + 1) names acc (wordR l).1 (wordR l).2 = .error e := by
 rw [quote_word h, loopO, if_neg (by rw [hc]; simp), wordR_mark h1 (by decide +kernel)]
 simp only
 rw [hv]
theorem rd_loopO_end {r3 : List UInt8} (h : quoteR l = some (t, r)) (hc : names.contains t = false) (h1 : skipB r = 58 :: r1) (hv : val (wordR r1).1 (wordR r1).2 = .ok (v, r2)) (hs : skipB r2 = 125 :: r3) : loopO val (f + 1) names acc (wordR l).1 (wordR l).2 = .ok (.mk 6 false 0 [] (names ++ [t]) (acc ++ [v]), r3) := by
 rw [quote_word h, loopO, if_neg (by rw [hc]; simp), wordR_mark h1 (by decide +kernel)]
 simp only
 rw [hv]
 simp only
 rw [wordR_mark hs (by decide +kernel)]; rfl
theorem rd_loopO_next {r3 : List UInt8} (h : quoteR l = some (t, r)) (hc : names.contains t = false) (h1 : skipB r = 58 :: r1) (hv : val (wordR r1).1 (wordR r1).2 = .ok (v, r2)) (hs : skipB r2 = 44 :: r3) : loopO val (f + 1) names acc (wordR l).1 (wordR l).2 = loopO val f (names ++ [t]) (acc ++ [v]) (wordR r3).1 (wordR r3).2 := by
 rw [quote_word h, loopO, if_neg (by rw [hc]; simp), wordR_mark h1 (by decide +kernel)]
 simp only
 rw [hv]
 simp only
 rw [wordR_mark hs (by decide +kernel)]; rfl
theorem rd_loopO_bad (h : quoteR l = some (t, r)) (hc : names.contains t = false) (h1 : skipB r = 58 :: r1) (hv : val (wordR r1).1 (wordR r1).2 = .ok (v, r2)) (h2 : atB (skipB r2) 125 = false) (h3 : atB (skipB r2) 44 = false) : loopO val (f + 1) names acc (wordR l).1 (wordR l).2 = .error 3 := by
 rw [quote_word h, loopO, if_neg (by rw [hc]; simp), wordR_mark h1 (by decide +kernel)]
 simp only
 rw [hv]
 simp only
 have e1 := wordR_unmark h2
 have e2 := wordR_unmark h3
 split
 ·
  rename_i hw; rw [hw] at e1; exact absurd rfl e1
 ·
  rename_i hw; rw [hw] at e2; exact absurd rfl e2
 ·
  rfl
end
structure MB (g : Nat) (s : ByteArray) (q e : Nat) (w : World) (cs6 : Array Value) (W : World) : Prop where
 at_ : RAt W g s q e
 grown : w.grownBy W (some g)
 res : Blk W w.heap.size 26 #[.int .i64 0, .bool false, .int .i64 0, .string ⟨#[]⟩, .slice none 0 0, .slice none 0 0]
 b6 : Blk W (w.heap.size + 1) 26 cs6
 lt : g < w.heap.size
section
variable {g q e q' e' : Nat} {s : ByteArray} {w W W' : World} {cs6 : Array Value}
theorem MSt.mb {kind : Int} (h : MSt g s q e kind w W) : MB g s q e w #[.int .i64 kind, .bool false, .int .i64 0, .string ⟨#[]⟩, .slice none 0 0, .slice none 0 0] W := ⟨h.at_, h.grown, h.res, h.blk, h.lt⟩
theorem MB.below (h : MB g s q e w cs6 W) (hb : Below W.heap.size W W') : MB g s q e w cs6 W' := ⟨h.at_.below hb, grown_below2 h.grown hb, h.res.below hb h.res.lt, h.b6.below hb h.b6.lt, h.lt⟩
theorem MB.alloc (h : MB g s q e w cs6 W) (o : Obj) : MB g s q e w cs6 (W.alloc o) := h.below ((Below.refl W.heap.size W).alloc (Nat.le_refl _) o)
theorem MB.drew (h : MB g s q e w cs6 W) : MB g s q e w cs6 W.drew := h.below (Below.refl W.heap.size W).drew
theorem MB.dn (h : MB g s q e w cs6 W) (n : Nat) : MB g s q e w cs6 (W.drewN n) := ⟨h.at_.dn n, grown_dn h.grown n, h.res, h.b6, h.lt⟩
theorem MB.call (h : MB g s q e w cs6 W) (ha : RAt W' g s q' e') (hg : W.grownBy W' (some g)) : MB g s q' e' w cs6 W' :=
 ⟨ha, grown_then h.grown hg (fun q e => .inl (by injection e with e; exact e.symm)), h.res.grown hg (fun e => by injection e with e; have := h.lt; omega), h.b6.grown hg (fun e => by injection e with e; have := h.lt; omega), h.lt⟩
theorem MB.row (h : MB g s q e w cs6 W) {row : Option Nat} (hg : W.grownBy W' row) (hr : ∀ q, row = some q → w.heap.size + 1 < q) : MB g s q e w cs6 W' :=
 ⟨h.at_.grown hg (fun e => by have := hr _ e.symm; have := h.lt; omega), grown_then h.grown hg (fun q e => .inr (by have := hr q e; omega)), h.res.grown hg (fun e => by have := hr _ e.symm; omega), h.b6.grown hg (fun e => by have := hr _ e.symm; omega), h.lt⟩
theorem MB.set_ (h : MB g s q e w cs6 W) (i : Nat) (u : Value) : MB g s q e w (cs6.setIfInBounds i u) (W.setCell ⟨w.heap.size + 1, i, none⟩ u) := by
 have hg : W.grownBy (W.setCell ⟨w.heap.size + 1, i, none⟩ u) (some (w.heap.size + 1)) := ⟨rfl, rfl, rfl, by simp, fun q _ hne => Below.heap_setCell _ _ _ _ (fun e => hne (by rw [e]))⟩
 have hl := h.lt
 exact ⟨h.at_.grown hg (fun e => by injection e with e; omega), grown_then h.grown hg (fun q e => .inr (by injection e with e; omega)), h.res.grown hg (fun e => by injection e with e; omega), h.b6.set_ i u, hl⟩
theorem MB.store (h : MB g s q e w cs6 W) (cells : Array Value) : RAt (W.setRow w.heap.size cells) g s q e ∧ w.grownBy (W.setRow w.heap.size cells) (some g) := by
 have hsr := setRow_only W w.heap.size cells
 have hl := h.lt
 exact ⟨h.at_.grown hsr (by simp; omega), grown_then h.grown hsr (fun q e => .inr (by injection e with e; omega))⟩
theorem MB.facts (h : MB g s q e w cs6 W) : W.cell? ⟨g, 0, none⟩ = some (.string s) ∧ W.cell? ⟨g, 1, none⟩ = some (.int .i64 (q : Int)) ∧ W.frozen? ⟨g, 1, none⟩ = false ∧ W.cell? ⟨g, 2, none⟩ = some (.int .i64 (e : Int)) ∧ W.frozen? ⟨g, 2, none⟩ = false := h.at_.facts
end
structure LM (g : Nat) (s : ByteArray) (q e : Nat) (w : World) (cs6 : Array Value) (nv : Value) (names : List (List UInt8)) (av : Value) (acc : List Jv) (W : World) : Prop where
 mb : MB g s q e w cs6 W
 kids : Kids W (w.heap.size + 2) nv names av acc
section
variable {g q e q' e' : Nat} {s : ByteArray} {w W W' : World} {cs6 : Array Value} {nv av nv' av' : Value} {names : List (List UInt8)} {acc : List Jv}
theorem LM.below (h : LM g s q e w cs6 nv names av acc W) (hb : Below W.heap.size W W') : LM g s q e w cs6 nv names av acc W' := ⟨h.mb.below hb, h.kids.grown (below_row hb none) (by simp)⟩
theorem LM.alloc (h : LM g s q e w cs6 nv names av acc W) (o : Obj) : LM g s q e w cs6 nv names av acc (W.alloc o) := h.below ((Below.refl W.heap.size W).alloc (Nat.le_refl _) o)
theorem LM.drew (h : LM g s q e w cs6 nv names av acc W) : LM g s q e w cs6 nv names av acc W.drew := h.below (Below.refl W.heap.size W).drew
theorem LM.dn (h : LM g s q e w cs6 nv names av acc W) (n : Nat) : LM g s q e w cs6 nv names av acc (W.drewN n) := ⟨h.mb.dn n, h.kids.grown (row := none) (grown_dn (only_refl W none) n) (by simp)⟩
theorem LM.call (h : LM g s q e w cs6 nv names av acc W) (ha : RAt W' g s q' e') (hg : W.grownBy W' (some g)) : LM g s q' e' w cs6 nv names av acc W' :=
 ⟨h.mb.call ha hg, h.kids.grown hg (fun q e => by injection e with e; have := h.mb.lt; omega)⟩
theorem LM.name (h : LM g s q e w cs6 nv names av acc W) {t : List UInt8} (ho : W'.ownsRow (w.heap.size + 2) 9 1 nv' (names.length + 1) (strVs names ++ [strV t])) (hg : W.grownBy W' nv.ownBlock) (hn : nv'.ownBlock = nv.ownBlock ∨ nv'.ownBlock = some W.heap.size) :
  LM g s q e w cs6 nv' (names ++ [t]) av acc W' := by
 obtain ⟨vs, h0, _, _⟩ := h.kids
 have hlo : ∀ q, nv.ownBlock = some q → w.heap.size + 2 ≤ q := fun q e => (h0.lt q e).1
 exact ⟨h.mb.row hg (fun q e => by have := hlo q e; omega), h.kids.name2 ho hg hn⟩
theorem LM.kid (h : LM g s q e w cs6 nv names av acc W) {v : Jv} {cs : List Value} {lo2 : Nat} {vs : List (List Value)} (h0 : W.ownsRow (w.heap.size + 2) 9 1 nv names.length (strVs names)) (h1 : W.ownsRow (w.heap.size + 2) 26 6 av acc.length vs.flatten) (h2 : JvsP W (fun b => w.heap.size + 2 ≤ b ∧ some b ≠ av.ownBlock ∧ some b ≠ nv.ownBlock) acc vs)
  (hv : JvV W lo2 v cs) (hlo : w.heap.size + 2 ≤ lo2) (ha : ∀ q, av.ownBlock = some q → q < lo2) (hn : ∀ q, nv.ownBlock = some q → q < lo2)
  (h3 : W'.ownsRow (w.heap.size + 2) 26 6 av' (acc.length + 1) (vs.flatten ++ cs)) (h4 : W.grownBy W' av.ownBlock) (h5 : av'.ownBlock = av.ownBlock ∨ av'.ownBlock = some W.heap.size) : LM g s q e w cs6 nv names av' (acc ++ [v]) W' := by
 have hlo' : ∀ q, av.ownBlock = some q → w.heap.size + 2 ≤ q := fun q e => (h1.lt q e).1
 exact ⟨h.mb.row h4 (fun q e => by have := hlo' q e; omega), Kids.snoc2 h0 h1 h2 hv hlo ha hn h3 h4 h5⟩
theorem LM.junk (h : LM g s q e w cs6 nv names av acc W) {vs : List (List Value)} (h1 : W.ownsRow (w.heap.size + 2) 26 6 av acc.length vs.flatten) (h4 : W.grownBy W' av.ownBlock) : MB g s q e w cs6 W' := by
 have hlo' : ∀ q, av.ownBlock = some q → w.heap.size + 2 ≤ q := fun q e => (h1.lt q e).1
 exact h.mb.row h4 (fun q e => by have := hlo' q e; omega)
theorem LM.set_ (h : LM g s q e w cs6 nv names av acc W) (i : Nat) (u : Value) : LM g s q e w (cs6.setIfInBounds i u) nv names av acc (W.setCell ⟨w.heap.size + 1, i, none⟩ u) := by
 have hg : W.grownBy (W.setCell ⟨w.heap.size + 1, i, none⟩ u) (some (w.heap.size + 1)) := ⟨rfl, rfl, rfl, by simp, fun q _ hne => Below.heap_setCell _ _ _ _ (fun e => hne (by rw [e]))⟩
 exact ⟨h.mb.set_ i u, h.kids.grown hg (fun q e => by injection e with e; omega)⟩
end
theorem Kids.lens {w : World} {lo : Nat} {NA A : Option Addr} {nn nc m c : Nat} {names : List (List UInt8)} {acc : List Jv} (h : Kids w lo (.slice NA nn nc) names (.slice A m c) acc) : nn = names.length ∧ m = acc.length := by
 obtain ⟨NAx, ncx, Ax, cx, e1, e2, _⟩ := h.value 0 false 0 []
 injection e1 with _ e1 _
 injection e2 with _ e2 _
 exact ⟨e1, e2⟩
theorem LM.junkN {g q e : Nat} {s : ByteArray} {w W W' : World} {cs6 : Array Value} {nv av : Value} {names : List (List UInt8)} {acc : List Jv} (h : LM g s q e w cs6 nv names av acc W) (h4 : W.grownBy W' nv.ownBlock) : MB g s q e w cs6 W' := by
 obtain ⟨vs, h0, _, _⟩ := h.kids
 have hlo' : ∀ q, nv.ownBlock = some q → w.heap.size + 2 ≤ q := fun q e => (h0.lt q e).1
 exact h.mb.row h4 (fun q e => by have := hlo' q e; omega)
def measM (g : Nat) (s : ByteArray) (W : World) : Nat := match W.cell? ⟨g, 2, none⟩, W.cell? ⟨g, 1, none⟩ with | some (.int _ e), some (.int _ n) => if e = 0 then 1 + s.size - n.toNat else 0 | _, _ => 0
theorem measM_of {g q e : Nat} {s : ByteArray} {W : World} (h : RAt W g s q e) : measM g s W = if e = 0 then 1 + s.size - q else 0 := by
 obtain ⟨c0, c1, f1, c2, f2⟩ := h.facts
 unfold measM
 rw [c2, c1]
 by_cases he : e = 0
 ·
  subst he; simp
 ·
  rw [if_neg he]; simp; intro h0; omega
theorem measM_lt {g q q' e' : Nat} {s : ByteArray} {W W' : World} (h : RAt W g s q 0) (h' : RAt W' g s q' e') (hq : e' = 0 → q < q') : measM g s W' < measM g s W := by
 rw [measM_of h, measM_of h']
 have := h.2.1
 have := h'.2.1
 simp only [if_true]
 split
 ·
  have := hq (by assumption); omega
 ·
  omega
def HeadM (kind : Int) (step : Nat → List (List UInt8) → List Jv → List UInt8 → Got) (g : Nat) (s : ByteArray) (w : World) (R : Got) (W : World) : Prop :=
 ∃ (q e : Nat) (NA : Option Addr) (nn nc : Nat) (A : Option Addr) (m c : Nat), MB g s q e w #[.int .i64 kind, .bool false, .int .i64 0, .string ⟨#[]⟩, .slice NA nn nc, .slice A m c] W ∧
  ((e = 0 ∧ ∃ names acc f, Kids W (w.heap.size + 2) (.slice NA nn nc) names (.slice A m c) acc ∧ (kind = 5 → names = []) ∧ names.length ≤ q ∧ acc.length ≤ q ∧ s.size - q + 1 ≤ f ∧ R = step f names acc (s.data.toList.drop q)) ∨ (e ≠ 0 ∧ R = .error e))
theorem HeadM.bad {kind : Int} {step : Nat → List (List UInt8) → List Jv → List UInt8 → Got} {g q e : Nat} {s : ByteArray} {w W : World} {R : Got} {NA : Option Addr} {nn nc : Nat} {A : Option Addr} {m c : Nat}
  (h : MB g s q e w #[.int .i64 kind, .bool false, .int .i64 0, .string ⟨#[]⟩, .slice NA nn nc, .slice A m c] W) (he : e ≠ 0) (hR : R = .error e) : HeadM kind step g s w R W := ⟨q, e, NA, nn, nc, A, m, c, h, .inr ⟨he, hR⟩⟩
theorem HeadM.good {kind : Int} {step : Nat → List (List UInt8) → List Jv → List UInt8 → Got} {g q : Nat} {s : ByteArray} {w W : World} {R : Got} {NA : Option Addr} {nn nc : Nat} {A : Option Addr} {m c f : Nat} {names : List (List UInt8)} {acc : List Jv}
  (h : LM g s q 0 w #[.int .i64 kind, .bool false, .int .i64 0, .string ⟨#[]⟩, .slice NA nn nc, .slice A m c] (.slice NA nn nc) names (.slice A m c) acc W) (hk : kind = 5 → names = []) (hn : names.length ≤ q) (ha : acc.length ≤ q) (hf : s.size - q + 1 ≤ f) (hR : R = step f names acc (s.data.toList.drop q)) : HeadM kind step g s w R W :=
 ⟨q, 0, NA, nn, nc, A, m, c, h.mb, .inl ⟨rfl, names, acc, f, h.kids, hk, hn, ha, hf, hR⟩⟩
def stepL (d : Nat) : Nat → List (List UInt8) → List Jv → List UInt8 → Got := fun f _ acc l => loopL (valW d) f acc (wordR l).1 (wordR l).2
def stepO (d : Nat) : Nat → List (List UInt8) → List Jv → List UInt8 → Got := fun f names acc l => loopO (valW d) f names acc (wordR l).1 (wordR l).2
theorem rval_bad {kind : Int} {g q e : Nat} {s : ByteArray} {w W : World} {R : Got} {cs6 : Array Value} (h : MB g s q e w cs6 W) (hR : R = .error e) (NA : Option Addr) (nn nc : Nat) (A : Option Addr) (m c : Nat) (cells : Array Value) :
  RValR g s R w (.returned (.agg #[.int .i64 kind, .bool false, .int .i64 0, .string ⟨#[]⟩, .slice NA nn nc, .slice A m c])) (W.setRow w.heap.size cells) :=
 rvalR_err hR _ _ _ _ _ _ _ _ _ _ rfl (h.store cells).2 (h.store cells).1
theorem rval_good {kind : Int} {g q : Nat} {s : ByteArray} {w W : World} {R : Got} {cs6 : Array Value} {NA : Option Addr} {nn nc : Nat} {A : Option Addr} {m c : Nat} {names : List (List UInt8)} {acc : List Jv} {r : List UInt8}
  (h : LM g s q 0 w cs6 (.slice NA nn nc) names (.slice A m c) acc W) (hR : R = .ok (.mk kind false 0 [] names acc, r)) (hd : s.data.toList.drop q = r) (cells : Array Value) :
  RValR g s R w (.returned (.agg #[.int .i64 kind, .bool false, .int .i64 0, .string ⟨#[]⟩, .slice NA nn nc, .slice A m c])) (W.setRow w.heap.size cells) := by
 have hsr := setRow_only W w.heap.size cells
 have hl := h.mb.lt
 obtain ⟨NAx, ncx, Ax, cx, e1, e2, hjv⟩ := h.kids.value kind false 0 []
 injection e1 with e1 e1' e1''
 injection e2 with e2 e2' e2''
 subst e1 e1' e1'' e2 e2' e2'' hR
 refine ⟨(h.mb.store cells).2, ?_⟩
 exact ⟨_, q, rfl, (hjv.grown hsr (fun q e => by injection e with e; omega)).low (by omega), (h.mb.store cells).1, hd⟩
end Go.Proofs.YtieppmppdmcleaaGreatDoor

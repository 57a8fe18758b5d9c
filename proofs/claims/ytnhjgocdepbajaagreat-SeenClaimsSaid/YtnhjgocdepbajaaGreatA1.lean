/- Loads and stores of whole structs in blocks of their own. No condition of its own. -/
import Derived.Test.YtnhjgocdepbajaaGreatKit
set_option linter.unusedVariables false
set_option linter.unusedSimpArgs false
set_option maxRecDepth 20000
namespace Go.Proofs.YtnhjgocdepbajaaGreat
open Go.RowKit
def putAll (cur : Array Value) : Nat → List Value → Array Value
 | _, [] => cur
 | o, v :: r => putAll (cur.setIfInBounds o v) (o + 1) r
theorem putAll_size : ∀ (vs : List Value) (o : Nat) (cur : Array Value), (putAll cur o vs).size = cur.size
 | [], _, _ => rfl
 | v :: r, o, cur => by rw [putAll, putAll_size r]; simp
theorem putAll_at : ∀ (vs : List Value) (o : Nat) (cur : Array Value), o + vs.length ≤ cur.size → ∀ j, (putAll cur o vs)[j]? = if o ≤ j ∧ j < o + vs.length then vs[j - o]? else cur[j]?
 | [], o, cur, _, j => by rw [putAll, if_neg (fun h => by have := h.1; have := h.2; simp at this; omega)]
 | v :: r, o, cur, h, j => by
  rw [putAll, putAll_at r (o + 1) _ (by simp at h ⊢; omega)]
  by_cases h1 : j = o
  ·
   subst h1
   rw [if_neg (by omega), if_pos (by simp)]
   simp at h
   simp [Array.getElem?_setIfInBounds, show j < cur.size by omega]
  ·
   by_cases h2 : o + 1 ≤ j ∧ j < o + 1 + r.length
   ·
    rw [if_pos h2, if_pos (by simp; omega), show j - o = j - (o + 1) + 1 by omega]
    simp
   ·
    rw [if_neg h2, if_neg (by simp; omega), Array.getElem?_setIfInBounds, if_neg (fun e => h1 e.symm)]
theorem putAll_whole (vs : List Value) (cur : Array Value) (h : cur.size = vs.length) : putAll cur 0 vs = vs.toArray := by
 apply Array.ext_getElem?
 intro j
 rw [putAll_at vs 0 cur (by omega)]
 by_cases hj : j < vs.length
 ·
  rw [if_pos (by omega)]; simp
 ·
  rw [if_neg (by omega), Array.getElem?_eq_none (by omega), Array.getElem?_eq_none (by simp; omega)]
theorem setCells_row (g : Nat) (t : TypeId) : ∀ (vs : List Value) (o : Nat) (w : World) (cur : Array Value), w.heap[g]? = some (.cells cur t (0, 0)) → w.setCells g o vs = w.setRow g (putAll cur o vs)
 | [], o, w, cur, h => (setRow_self w g cur t (0, 0) h).symm
 | v :: r, o, w, cur, h => by
  have h2 := heap_setCell_same w g o cur t v h
  rw [World.setCells, setCells_row g t r (o + 1) _ _ h2, setCell_eq_setRow w g o cur t (0, 0) v h, setRow_setRow, putAll]
theorem alloc_setRow (w : World) (cur cs : Array Value) (t : TypeId) : (w.alloc (.cells cur t)).setRow w.heap.size cs = w.alloc (.cells cs t) := by
 unfold World.alloc World.setRow
 congr 1
 apply Array.ext_getElem?
 intro j
 simp only [Array.getElem?_modify, Array.getElem?_push]
 by_cases h : w.heap.size = j
 ·
  simp [h]
 ·
  simp [h, show ¬ j = w.heap.size from fun e => h e.symm]
variable {P : Program}
theorem wpList_store_fresh {ops : Array Oper} {rest : List Oper} {op : Oper} {a : Act} (w : World) {Q : Exit → Act → World → Prop} (hgd : op.guard = none) (ty : TypeId) (x y : Operand) (ho : op.op = .store ty x y)
  (cur cells : Array Value) (t : TypeId) (hx : a.eval x = .pointer (some ⟨w.heap.size, 0, none⟩)) (hy : a.eval y = .agg cells) (hs : cur.size = cells.size)
  (hi : (P.info? ty).map (·.size) = some cells.size) (h1 : cells.all (·.oneCell') = true)
  (h : wpList P ops Q rest (a.put op.dst undef) (w.alloc (.cells cells t))) : wpList P ops Q (op :: rest) a (w.alloc (.cells cur t)) := by
 have hb := Blk.new w t cur
 refine wpList_store_mid hgd ty x y ho w.heap.size 0 cells hx hy (fun j hj => ?_) hi h1 ?_
 ·
  rw [show 0 + j = j by omega, hb.cell]
  exact ⟨by rw [Array.getElem?_eq_getElem (by omega)]; rfl, hb.frozen j⟩
 ·
  rw [setCells_row w.heap.size t cells.toList 0 _ cur hb, putAll_whole _ _ (by simpa using hs), alloc_setRow]
  simpa using h
theorem wpList_store_blk {ops : Array Oper} {rest : List Oper} {op : Oper} {a : Act} {w : World} {Q : Exit → Act → World → Prop} (hgd : op.guard = none) (ty : TypeId) (x y : Operand) (ho : op.op = .store ty x y)
  (g : Nat) (cur cells : Array Value) (t : TypeId) (hx : a.eval x = .pointer (some ⟨g, 0, none⟩)) (hy : a.eval y = .agg cells) (hb : Blk w g t cur) (hs : cur.size = cells.size)
  (hi : (P.info? ty).map (·.size) = some cells.size) (h1 : cells.all (·.oneCell') = true)
  (h : wpList P ops Q rest (a.put op.dst undef) (w.setRow g cells)) : wpList P ops Q (op :: rest) a w := by
 refine wpList_store_mid hgd ty x y ho g 0 cells hx hy (fun j hj => ?_) hi h1 ?_
 ·
  rw [show 0 + j = j by omega, hb.cell]
  exact ⟨by rw [Array.getElem?_eq_getElem (by omega)]; rfl, hb.frozen j⟩
 ·
  rw [setCells_row g t cells.toList 0 _ cur hb, putAll_whole _ _ (by simpa using hs)]
  simpa using h
theorem run_loadVar_at (w : World) (ad : Addr) (ty : TypeId) (cs : List Value) (d : TypeDesc) (hc : ∀ j u, cs[j]? = some u → w.cell? (ad.add j) = some u)
  (hu : P.underlying ty = some d) (hd : (match d with | .struct _ | .array _ _ => true | _ => false) = true) (hi : (P.info? ty).map (·.size) = some cs.length) :
  (loadVar ty ad).run P w = .ok (.agg cs.toArray) w := by
 have hl : (loadCells ad cs.length).run P w = .ok cs.toArray w := run_loadCells_list (P := P) w ad cs hc
 cases hq : P.info? ty with
 | none => simp [hq] at hi
 | some i =>
  have hs : i.size = cs.length := by simpa [hq] using hi
  have hagg : (isAgg ty).run P w = .ok true w := by
   unfold isAgg
   rw [Sem.run_bind, run_underlying hu w]
   cases d <;> simp_all
  simp [loadVar, Sem.run_bind, hagg, sizeOf, typeInfo, hq, hs, hl]
theorem wp_load_at {o : Oper} {a : Act} {w : World} {K : Act → World → Prop} {Q : Exit → Act → World → Prop} (ty : TypeId) (x : Operand) (ho : o.op = .load ty x)
  (ad : Addr) (hx : a.eval x = .pointer (some ad)) (cs : List Value) (d : TypeDesc) (hc : ∀ j u, cs[j]? = some u → w.cell? (ad.add j) = some u)
  (hu : P.underlying ty = some d) (hd : (match d with | .struct _ | .array _ _ => true | _ => false) = true) (hi : (P.info? ty).map (·.size) = some cs.length)
  (h : K (a.put o.dst (.agg cs.toArray)) w) : o.wp P a w K Q := by
 unfold Oper.wp execOp
 simp only [ho, hx, Instr.loadAt, Instr.sureAddr, Sem.run_bind, Sem.run_pure, Result.andThen_ok, run_loadVar_at w ad ty cs d hc hu hd hi]
 exact h
theorem wpList_load_at {ops : Array Oper} {rest : List Oper} {o : Oper} {a : Act} {w : World} {Q : Exit → Act → World → Prop} (hgd : o.guard = none) (ty : TypeId) (x : Operand) (ho : o.op = .load ty x)
  (ad : Addr) (hx : a.eval x = .pointer (some ad)) (cs : List Value) (d : TypeDesc) (hc : ∀ j u, cs[j]? = some u → w.cell? (ad.add j) = some u)
  (hu : P.underlying ty = some d) (hd : (match d with | .struct _ | .array _ _ => true | _ => false) = true) (hi : (P.info? ty).map (·.size) = some cs.length)
  (h : wpList P ops Q rest (a.put o.dst (.agg cs.toArray)) w) : wpList P ops Q (o :: rest) a w :=
 wpList_plain hgd fun _ hK => wp_load_at ty x ho ad hx cs d hc hu hd hi (hK _ _ h)
theorem Blk.setRow {w : World} {g : Nat} {t : TypeId} {cs cs' : Array Value} (h : Blk w g t cs) : Blk (w.setRow g cs') g t cs' := setRow_heap w g _ _ t _ h
theorem setRow_only (w : World) (b : Nat) (cs : Array Value) : w.grownBy (w.setRow b cs) (some b) :=
 ⟨rfl, rfl, rfl, by simp, fun i _ hne => setRow_other w b i cs (fun e => hne (by rw [e]))⟩
theorem only_setRow {a w : World} {row : Option Nat} (h : a.grownBy w row) {b : Nat} (hb : a.heap.size ≤ b) (cs : Array Value) : a.grownBy (w.setRow b cs) row :=
 ⟨h.os, h.tape, h.output, by rw [size_setRow]; exact h.size, fun i hi hne => (setRow_other w b i cs (by omega)).trans (h.block i hi hne)⟩
theorem wp_store_blk {P : Program} {op : Oper} {a : Act} {w : World} {K : Act → World → Prop} {Q : Exit → Act → World → Prop} (ty : TypeId) (x y : Operand) (ho : op.op = .store ty x y)
  (g : Nat) (cur cells : Array Value) (t : TypeId) (hx : a.eval x = .pointer (some ⟨g, 0, none⟩)) (hy : a.eval y = .agg cells) (hb : Blk w g t cur) (hs : cur.size = cells.size)
  (hi : (P.info? ty).map (·.size) = some cells.size) (h1 : cells.all (·.oneCell') = true)
  (h : K (a.put op.dst undef) (w.setRow g cells)) : op.wp P a w K Q := by
 refine wp_store_mid ty x y ho g 0 cells hx hy (fun j hj => ?_) hi h1 ?_
 ·
  rw [show 0 + j = j by omega, hb.cell]
  exact ⟨by rw [Array.getElem?_eq_getElem (by omega)]; rfl, hb.frozen j⟩
 ·
  rw [setCells_row g t cells.toList 0 _ cur hb, putAll_whole _ _ (by simpa using hs)]
  simpa using h
theorem add_zero_at (g n : Nat) : (⟨g, 0, none⟩ : Addr).add n = ⟨g, n, none⟩ := by unfold Addr.add; split <;> simp_all
theorem Blk.setOther {w : World} {g g' : Nat} {t : TypeId} {cs : Array Value} (h : Blk w g t cs) (hne : g ≠ g') (cs' : Array Value) : Blk (w.setRow g' cs') g t cs := (setRow_other w g' g cs' hne).trans h
end Go.Proofs.YtnhjgocdepbajaaGreat
set_option linter.unusedVariables false
set_option linter.unusedSimpArgs false
set_option maxRecDepth 20000
namespace Go.Proofs.YtnhjgocdepbajaaGreat
open Go.RowKit
def TapeAt (w : World) (g : Nat) (zs : List Int) (at_ : Nat) : Prop :=
 at_ ≤ zs.length ∧ zs.length ≤ 9223372036854775807 ∧ (∀ z ∈ zs, -9223372036854775808 ≤ z ∧ z ≤ 9223372036854775807) ∧
 ∃ A c, zs.length ≤ c ∧ Blk w g 26 #[.slice A zs.length c, .int .i64 (at_ : Int)] ∧ Reads w g 1 A zs.length (zs.map (Value.int .i64))
theorem TapeAt.lt {w : World} {g : Nat} {zs : List Int} {k : Nat} (h : TapeAt w g zs k) : g < w.heap.size := by
 obtain ⟨_, _, _, A, c, _, hb, _⟩ := h
 exact hb.lt
theorem TapeAt.grown {w w' : World} {g : Nat} {zs : List Int} {k : Nat} {row : Option Nat} (h : TapeAt w g zs k) (hg : w.grownBy w' row) (hr : ∀ r, row = some r → g < r) : TapeAt w' g zs k := by
 have hl := h.lt
 obtain ⟨h1, h2, h3, A, c, hc, hb, hrd⟩ := h
 refine ⟨h1, h2, h3, A, c, hc, hb.grown hg (fun e => ?_), hrd.grown hg (by omega) (fun r e => ?_)⟩
 ·
  have := hr g e.symm; omega
 ·
  have := hr r e; omega
theorem TapeAt.below {w w' : World} {g : Nat} {zs : List Int} {k : Nat} (h : TapeAt w g zs k) (hb : Below (g + 1) w w') : TapeAt w' g zs k := by
 obtain ⟨h1, h2, h3, A, c, hc, hbk, hrd⟩ := h
 exact ⟨h1, h2, h3, A, c, hc, hbk.below hb (by omega), hrd.below (hb.mono (by omega))⟩
theorem TapeAt.drewN {w : World} {g : Nat} {zs : List Int} {k : Nat} (h : TapeAt w g zs k) (n : Nat) : TapeAt (w.drewN n) g zs k := h
theorem only_trans {a b c : World} {g : Nat} (h : a.grownBy b (some g)) (k : b.grownBy c (some g)) : a.grownBy c (some g) :=
 ⟨k.os.trans h.os, k.tape.trans h.tape, k.output.trans h.output, Nat.le_trans h.size k.size, fun i hi hne => (k.block i (Nat.lt_of_lt_of_le hi h.size) hne).trans (h.block i hi hne)⟩
theorem only_refl (a : World) (row : Option Nat) : a.grownBy a row := ⟨rfl, rfl, rfl, Nat.le_refl _, fun _ _ _ => rfl⟩
theorem TapeAt.step {w : World} {g : Nat} {zs : List Int} {k : Nat} (h : TapeAt w g zs k) (hlt : k < zs.length) : TapeAt (w.setCell ⟨g, 1, none⟩ (.int .i64 ((k : Int) + 1))) g zs (k + 1) := by
 obtain ⟨h1, h2, h3, A, c, hc, hb, hr⟩ := h
 refine ⟨by omega, h2, h3, A, c, hc, ?_, hr.setCell (Nat.le_refl _) _⟩
 have := hb.set_ 1 (.int .i64 ((k : Int) + 1))
 simpa using this
end Go.Proofs.YtnhjgocdepbajaaGreat
set_option linter.unusedVariables false
set_option linter.unusedSimpArgs false
set_option maxRecDepth 20000
namespace Go.Proofs.YtnhjgocdepbajaaGreat
open Go.RowKit
def IntsIn (w : World) (A : Option Addr) (c : Nat) (zs : List Int) : Prop :=
 zs.length ≤ c ∧ zs.length ≤ 9223372036854775807 ∧ (∀ z ∈ zs, -9223372036854775808 ≤ z ∧ z ≤ 9223372036854775807) ∧ Reads w w.heap.size 1 A zs.length (zs.map (Value.int .i64))
theorem IntsIn.below {w w' : World} {A : Option Addr} {c : Nat} {zs : List Int} (h : IntsIn w A c zs) (hb : Below w.heap.size w w') : IntsIn w' A c zs :=
 ⟨h.1, h.2.1, h.2.2.1, (h.2.2.2.below hb).more hb.size⟩
theorem i64_wf {a : Int} (h : (Lit.int .i64 a).wf = true) : -9223372036854775808 ≤ a ∧ a ≤ 9223372036854775807 := by
 simpa [Lit.wf, IntKind.min, IntKind.max, IntKind.signed, IntKind.bits] using h
end Go.Proofs.YtnhjgocdepbajaaGreat

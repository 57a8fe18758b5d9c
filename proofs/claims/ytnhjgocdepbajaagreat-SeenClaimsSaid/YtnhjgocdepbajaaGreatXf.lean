/- Frames: the variables of a call, each in a block of its own, beside rows that outlast what is written there. No condition of its own. -/
import Derived.Test.YtnhjgocdepbajaaGreatXr
set_option linter.unusedVariables false
set_option linter.unusedSimpArgs false
set_option maxRecDepth 20000
namespace Go.Proofs.YtnhjgocdepbajaaGreat
open Go.RowKit
def rowD : TypeDesc → Bool
 | .struct _ => true
 | .array _ _ => true
 | _ => false
abbrev Bx := Nat × TypeId × Array Value
def Kp (w : World) (bs : List Bx) (D : World → Prop) : Prop :=
 ∀ w' : World, w.heap.size ≤ w'.heap.size → (∀ k, k < w.heap.size → (∀ x ∈ bs, x.1 ≠ k) → w'.heap[k]? = w.heap[k]?) → D w'
structure Fr (w0 w : World) (bs : List Bx) (D : World → Prop) : Prop where
 below : Below w0.heap.size w0 w
 blk : ∀ (i : Nat) (x : Bx), bs[i]? = some x → w0.heap.size ≤ x.1 ∧ Blk w x.1 x.2.1 x.2.2
 ne : ∀ (i j : Nat) (x y : Bx), bs[i]? = some x → bs[j]? = some y → i ≠ j → x.1 ≠ y.1
 kp : Kp w bs D
section
variable {w0 w w' : World} {bs : List Bx} {D D2 : World → Prop}
theorem Kp.here (h : Kp w bs D) : D w := h w (Nat.le_refl _) (fun _ _ _ => rfl)
theorem Kp.both (h : Kp w bs D) (h2 : Kp w bs D2) : Kp w bs (fun W => D W ∧ D2 W) := fun w' hs hk => ⟨h w' hs hk, h2 w' hs hk⟩
theorem Kp.mono (h : Kp w bs D) (hd : ∀ W, D W → D2 W) : Kp w bs D2 := fun w' hs hk => hd _ (h w' hs hk)
theorem Kp.step {bs' : List Bx} (h : Kp w bs D) (hs : w.heap.size ≤ w'.heap.size) (hk : ∀ k, k < w.heap.size → (∀ x ∈ bs, x.1 ≠ k) → w'.heap[k]? = w.heap[k]?)
  (hb : ∀ x' ∈ bs', (∃ x ∈ bs, x.1 = x'.1) ∨ w.heap.size ≤ x'.1) : Kp w' bs' D := fun w2 hs2 hk2 =>
 h w2 (Nat.le_trans hs hs2) fun k hl hn => by
  rw [← hk k hl hn]
  refine hk2 k (by omega) fun x' hx' e => ?_
  rcases hb x' hx' with ⟨x, hx, e2⟩ | hge
  ·
   exact hn x hx (by rw [e2, e])
  ·
   omega
theorem Fr.data (h : Fr w0 w bs D) : D w := h.kp.here
theorem Fr.nil (w : World) : Fr w w [] (fun _ => True) := ⟨Below.refl _ _, fun i x h => by simp at h, fun i j x y h => by simp at h, fun _ _ _ => trivial⟩
theorem Fr.start (w : World) (hk : Kp w [] D) : Fr w w [] D := ⟨Below.refl _ _, fun i x h => by simp at h, fun i j x y h => by simp at h, hk⟩
theorem Fr.mem (h : Fr w0 w bs D) {x : Bx} (hx : x ∈ bs) : w0.heap.size ≤ x.1 ∧ x.1 < w.heap.size := by
 obtain ⟨i, hi⟩ := List.mem_iff_getElem?.1 hx
 have := h.blk i x hi
 exact ⟨this.1, this.2.lt⟩
theorem Fr.call (h : Fr w0 w bs D) (hb : Below w.heap.size w w') : Fr w0 w' bs D :=
 ⟨h.below.trans (hb.mono h.below.size), fun i x e => ⟨(h.blk i x e).1, (h.blk i x e).2.below hb (h.blk i x e).2.lt⟩, h.ne,
  h.kp.step hb.size (fun k hl _ => hb.block k hl) (fun x' hx' => .inl ⟨x', hx', rfl⟩)⟩
theorem Fr.drewN (h : Fr w0 w bs D) (n : Nat) : Fr w0 (w.drewN n) bs D := h.call (below_drewN (Below.refl _ _) n)
theorem Fr.drew (h : Fr w0 w bs D) : Fr w0 w.drew bs D := h.drewN 1
theorem Fr.grow (h : Fr w0 w bs D) (hk : Kp w bs D2) : Fr w0 w bs (fun W => D W ∧ D2 W) := ⟨h.below, h.blk, h.ne, h.kp.both hk⟩
theorem Fr.weak (h : Fr w0 w bs D) (hd : ∀ W, D W → D2 W) : Fr w0 w bs D2 := ⟨h.below, h.blk, h.ne, h.kp.mono hd⟩
theorem Fr.alloc (h : Fr w0 w bs D) (t : TypeId) (cs : Array Value) : Fr w0 (w.alloc (.cells cs t)) (bs ++ [(w.heap.size, t, cs)]) D := by
 have hb : Below w.heap.size w (w.alloc (.cells cs t)) := (Below.refl w.heap.size w).alloc (Nat.le_refl _) _
 have hc := h.call hb
 refine ⟨hc.below, fun i x e => ?_, fun i j x y ei ej hne => ?_, h.kp.step hb.size (fun k hl _ => hb.block k hl) (fun x' hx' => ?_)⟩
 ·
  rw [List.getElem?_append] at e
  split at e
  ·
   exact hc.blk i x e
  ·
   rw [List.getElem?_singleton] at e
   split at e
   ·
    injection e with e
    subst e
    exact ⟨h.below.size, Blk.new w t cs⟩
   ·
    simp at e
 ·
  have hlt : ∀ i x, (bs ++ [(w.heap.size, t, cs)])[i]? = some x → (i < bs.length ∧ bs[i]? = some x) ∨ (i = bs.length ∧ x.1 = w.heap.size) := fun i x e => by
   rw [List.getElem?_append] at e
   split at e
   ·
    rename_i hl; exact .inl ⟨hl, e⟩
   ·
    rename_i hl
    rw [List.getElem?_singleton] at e
    split at e
    ·
     injection e with e; subst e; exact .inr ⟨by omega, rfl⟩
    ·
     simp at e
  rcases hlt i x ei with ⟨_, e1⟩ | ⟨h1, e1⟩ <;> rcases hlt j y ej with ⟨_, e2⟩ | ⟨h2, e2⟩
  ·
   exact h.ne i j x y e1 e2 hne
  ·
   have := (h.blk i x e1).2.lt; omega
  ·
   have := (h.blk j y e2).2.lt; omega
  ·
   omega
 ·
  rcases List.mem_append.1 hx' with hx | hx
  ·
   exact .inl ⟨x', hx, rfl⟩
  ·
   simp at hx; subst hx; exact .inr (Nat.le_refl _)
theorem Fr.put (h : Fr w0 w bs D) {i g : Nat} {t : TypeId} {cs : Array Value} (hi : bs[i]? = some (g, t, cs)) (cs' : Array Value) (hb : w.grownBy w' (some g)) (hn : Blk w' g t cs') : Fr w0 w' (bs.set i (g, t, cs')) D := by
 have hg := h.blk i _ hi
 have hset : ∀ j x, (bs.set i (g, t, cs'))[j]? = some x → (j = i ∧ x = (g, t, cs')) ∨ (j ≠ i ∧ bs[j]? = some x) := fun j x e => by
  rw [List.getElem?_set] at e
  split at e
  ·
   rename_i hij
   split at e
   ·
    injection e with e; exact .inl ⟨hij.symm, e.symm⟩
   ·
    simp at e
  ·
   rename_i hij; exact .inr ⟨fun e => hij e.symm, e⟩
 refine ⟨h.below.grown hb h.below.size (fun q hq => by injection hq with hq; rw [← hq]; exact hg.1), fun j x e => ?_, fun j k x y ej ek hne => ?_, h.kp.step hb.size (fun k hl hno => hb.block k hl (fun e => ?_)) (fun x' hx' => ?_)⟩
 ·
  rcases hset j x e with ⟨rfl, rfl⟩ | ⟨hj, e2⟩
  ·
   exact ⟨hg.1, hn⟩
  ·
   exact ⟨(h.blk j x e2).1, (h.blk j x e2).2.grown hb (fun e3 => by injection e3 with e3; exact h.ne j i x _ e2 hi hj e3)⟩
 ·
  rcases hset j x ej with ⟨rfl, rfl⟩ | ⟨hj, e1⟩ <;> rcases hset k y ek with ⟨rfl, rfl⟩ | ⟨hk, e2⟩
  ·
   exact absurd rfl hne
  ·
   exact h.ne j k (g, t, cs) y hi e2 hne
  ·
   exact h.ne j k x (g, t, cs) e1 hi hne
  ·
   exact h.ne j k x y e1 e2 hne
 ·
  injection e with e
  exact hno (g, t, cs) (List.mem_iff_getElem?.2 ⟨i, hi⟩) e.symm
 ·
  obtain ⟨j, hj⟩ := List.mem_iff_getElem?.1 hx'
  rcases hset j x' hj with ⟨rfl, rfl⟩ | ⟨_, e2⟩
  ·
   exact .inl ⟨(g, t, cs), List.mem_iff_getElem?.2 ⟨_, hi⟩, rfl⟩
  ·
   exact .inl ⟨x', List.mem_iff_getElem?.2 ⟨j, e2⟩, rfl⟩
theorem Fr.setRow (h : Fr w0 w bs D) {i g : Nat} {t : TypeId} {cs : Array Value} (hi : bs[i]? = some (g, t, cs)) (cs' : Array Value) : Fr w0 (w.setRow g cs') (bs.set i (g, t, cs')) D :=
 h.put hi cs' (setRow_only w g cs') (h.blk i _ hi).2.setRow
theorem Fr.setCell (h : Fr w0 w bs D) {i g : Nat} {t : TypeId} {cs : Array Value} (hi : bs[i]? = some (g, t, cs)) (k : Nat) (u : Value) : Fr w0 (w.setCell ⟨g, k, none⟩ u) (bs.set i (g, t, cs.setIfInBounds k u)) D :=
 h.put hi _ (only_setCell (only_refl w (some g)) (.inl rfl) u) ((h.blk i _ hi).2.set_ k u)
theorem Fr.pair (h : Fr w0 w bs D) : bs.Pairwise (fun x y => x.1 ≠ y.1) := by
 rw [List.pairwise_iff_getElem]
 intro i j hi hj hij
 exact h.ne i j _ _ (List.getElem?_eq_getElem hi) (List.getElem?_eq_getElem hj) (by omega)
theorem Fr.sub {cs : List Bx} (h : Fr w0 w bs D) (hs : cs.Sublist bs) : Fr w0 w cs D := by
 have hp := List.pairwise_iff_getElem.1 (h.pair.sublist hs)
 refine ⟨h.below, fun i x hi => ?_, fun i j x y hi hj hij => ?_, fun w' hsz hk => h.kp w' hsz fun k hl hn => hk k hl fun x hx => hn x (hs.mem hx)⟩
 ·
  obtain ⟨j, hj⟩ := List.mem_iff_getElem?.1 (hs.mem (List.mem_iff_getElem?.2 ⟨i, hi⟩))
  exact h.blk j x hj
 ·
  obtain ⟨hil, ei⟩ := List.getElem?_eq_some_iff.1 hi
  obtain ⟨hjl, ej⟩ := List.getElem?_eq_some_iff.1 hj
  rcases Nat.lt_or_gt_of_ne hij with h1 | h1
  ·
   rw [← ei, ← ej]; exact hp i j hil hjl h1
  ·
   rw [← ei, ← ej]; exact (hp j i hjl hil h1).symm
theorem Fr.cell (h : Fr w0 w bs D) {i g : Nat} {t : TypeId} {cs : Array Value} (hi : bs[i]? = some (g, t, cs)) (k : Nat) : w.cell? ⟨g, k, none⟩ = cs[k]? := (h.blk i _ hi).2.cell k
theorem Fr.frozen (h : Fr w0 w bs D) {i g : Nat} {t : TypeId} {cs : Array Value} (hi : bs[i]? = some (g, t, cs)) (k : Nat) : w.frozen? ⟨g, k, none⟩ = false := (h.blk i _ hi).2.frozen k
end
section
variable {P : Program} {w0 w : World} {bs : List Bx} {D : World → Prop} {ops : Array Oper} {rest : List Oper} {op : Oper} {a : Act} {K : Act → World → Prop} {Q : Exit → Act → World → Prop}
theorem wpL (hw : Region.wanted op (yielded ops a.tmps) = true) (h : ∀ K : Act → World → Prop, (∀ a w, wpList P ops Q rest a w → K a w) → op.wp P a w K Q) : wpList P ops Q (op :: rest) a w :=
 wpList_step fun K hK => by rw [if_pos hw]; exact h K hK
theorem wp_val {v : Value} (h : (execOp a.eval op).run P w = .ok (.value v) w) (hK : K (a.put op.dst v) w) : op.wp P a w K Q := by
 unfold Oper.wp
 rw [h]
 exact hK
theorem wp_alloc_fr (t : TypeId) (ho : op.op = .alloc t) (hF : Fr w0 w bs D) (cs : Array Value) (z : Value) (hz : (zeroValue t).run P w = .ok z w) (hc : z.cells = cs)
  (h : ∀ g w', Fr w0 w' (bs ++ [(g, t, cs)]) D → w.grownBy w' none → K (a.put op.dst (.pointer (some ⟨g, 0, none⟩))) w') : op.wp P a w K Q := by
 unfold Oper.wp execOp
 simp only [ho, Instr.alloc, Sem.run_bind, hz, Result.andThen_ok, newVar, hc]
 exact h w.heap.size _ (hF.alloc t cs) (only_alloc (only_refl _ _) _)
theorem wp_box_fr (t : TypeId) (x : Operand) (ho : op.op = .box t x) (hF : Fr w0 w bs D) (cs : Array Value) (hc : (a.eval x).cells = cs)
  (h : ∀ g w', Fr w0 w' (bs ++ [(g, t, cs)]) D → w.grownBy w' none → K (a.put op.dst (.pointer (some ⟨g, 0, none⟩))) w') : op.wp P a w K Q := by
 unfold Oper.wp execOp
 simp only [ho, Instr.box, newVar, hc]
 exact h w.heap.size _ (hF.alloc t cs) (only_alloc (only_refl _ _) _)
theorem wp_store_fr (i : Nat) {g : Nat} {t : TypeId} {cur cells : Array Value} (t' : TypeId) (x y : Operand) (ho : op.op = .store t' x y) (hF : Fr w0 w bs D) (hi : bs[i]? = some (g, t, cur))
  (hx : a.eval x = .pointer (some ⟨g, 0, none⟩)) (hy : a.eval y = .agg cells) (hs : cur.size = cells.size) (hz : (P.info? t').map (·.size) = some cells.size) (h1 : cells.all (·.oneCell') = true)
  (h : ∀ w', Fr w0 w' (bs.set i (g, t, cells)) D → K (a.put op.dst undef) w') : op.wp P a w K Q :=
 wp_store_blk t' x y ho g cur cells t hx hy (hF.blk i _ hi).2 hs hz h1 (h _ (hF.setRow hi cells))
theorem run_load_fr (i : Nat) {g : Nat} {t : TypeId} {cs : Array Value} {d : TypeDesc} (t' : TypeId) (hF : Fr w0 w bs D) (hi : bs[i]? = some (g, t, cs))
  (hu : P.underlying t' = some d) (hd : rowD d = true) (hz : (P.info? t').map (·.size) = some cs.size) :
  (loadVar t' ⟨g, 0, none⟩).run P w = .ok (.agg cs) w := by
 have := run_loadVar_at (P := P) w ⟨g, 0, none⟩ t' cs.toList d (fun j u hu => by
  rw [add_zero_at, hF.cell hi j]
  simpa using hu) hu (by cases d <;> first | rfl | cases hd) (by simpa using hz)
 simpa using this
theorem exec_load_fr (i : Nat) {g : Nat} {t : TypeId} {cs : Array Value} {d : TypeDesc} (t' : TypeId) (x : Operand) (ho : op.op = .load t' x) (hF : Fr w0 w bs D) (hi : bs[i]? = some (g, t, cs))
  (hx : a.eval x = .pointer (some ⟨g, 0, none⟩)) (hu : P.underlying t' = some d) (hd : rowD d = true) (hz : (P.info? t').map (·.size) = some cs.size) :
  (execOp a.eval op).run P w = .ok (.value (.agg cs)) w := by
 unfold execOp
 simp only [ho, hx, Instr.loadAt, Instr.sureAddr, Sem.run_bind, Sem.run_pure, Result.andThen_ok, run_load_fr i t' hF hi hu hd hz]
theorem exec_cell_fr (i k : Nat) {g : Nat} {t : TypeId} {cs : Array Value} {d : TypeDesc} {v : Value} (t' : TypeId) (x : Operand) (ho : op.op = .load t' x) (hF : Fr w0 w bs D) (hi : bs[i]? = some (g, t, cs))
  (hx : a.eval x = .pointer (some ⟨g, k, none⟩)) (hv : cs[k]? = some v) (hu : P.underlying t' = some d) (hd : rowD d = false) :
  (execOp a.eval op).run P w = .ok (.value v) w := by
 have hc : w.cell? ⟨g, k, none⟩ = some v := (hF.cell hi k).trans hv
 unfold execOp
 have ha : (isAgg t').run P w = .ok false w := by
  unfold isAgg
  rw [Sem.run_bind, run_underlying hu w]
  cases d <;> first | rfl | cases hd
 simp only [ho, hx, Instr.loadAt, Instr.sureAddr, Sem.run_bind, Sem.run_pure, Result.andThen_ok, loadVar, ha]
 simp [run_load, hc]
theorem exec_part_fr (i k : Nat) {g : Nat} {t : TypeId} {cs : Array Value} {d : TypeDesc} (vs : List Value) (t' : TypeId) (x : Operand) (ho : op.op = .load t' x) (hF : Fr w0 w bs D) (hi : bs[i]? = some (g, t, cs))
  (hx : a.eval x = .pointer (some ⟨g, k, none⟩)) (hv : ∀ j u, vs[j]? = some u → cs[k + j]? = some u) (hu : P.underlying t' = some d) (hd : rowD d = true) (hz : (P.info? t').map (·.size) = some vs.length) :
  (execOp a.eval op).run P w = .ok (.value (.agg vs.toArray)) w := by
 have := run_loadVar_at (P := P) w ⟨g, k, none⟩ t' vs d (fun j u hu => by
  rw [show ((⟨g, k, none⟩ : Addr).add j) = ⟨g, k + j, none⟩ by unfold Addr.add; split <;> simp_all, hF.cell hi]
  exact hv j u hu) hu (by cases d <;> first | rfl | cases hd) hz
 unfold execOp
 simp only [ho, hx, Instr.loadAt, Instr.sureAddr, Sem.run_bind, Sem.run_pure, Result.andThen_ok, this]
theorem wp_cellstore_fr (i k : Nat) {g : Nat} {t : TypeId} {cur : Array Value} {v : Value} (t' : TypeId) (x y : Operand) (ho : op.op = .store t' x y) (hF : Fr w0 w bs D) (hi : bs[i]? = some (g, t, cur))
  (hx : a.eval x = .pointer (some ⟨g, k, none⟩)) (hy : a.eval y = v) (hs : k < cur.size) (hz : (P.info? t').map (·.size) = some 1) (h1 : v.oneCell' = true)
  (h : ∀ w', Fr w0 w' (bs.set i (g, t, cur.setIfInBounds k v)) D → K (a.put op.dst undef) w') : op.wp P a w K Q := by
 have hc := hF.cell hi k
 have hf := hF.frozen hi k
 have hcs : v.cells = #[v] := by cases v <;> first | rfl | cases h1
 unfold Oper.wp execOp
 cases hq : P.info? t' with
 | none => simp [hq] at hz
 | some i0 =>
  have hs1 : i0.size = 1 := by simpa [hq] using hz
  obtain ⟨u, hu⟩ : ∃ u, cur[k]? = some u := ⟨_, Array.getElem?_eq_getElem hs⟩
  simp only [ho, hx, hy, Instr.storeAt, Instr.sureAddr, Sem.run_bind, Sem.run_pure, Result.andThen_ok]
  have e : (storeVar t' ⟨g, k, none⟩ v).run P w = .ok () (w.setCell ⟨g, k, none⟩ v) := by
   simp [storeVar, sizeOf, typeInfo, hq, hcs, hs1, Sem.run_bind, storeCells, run_store, h1, show (⟨g, k, none⟩ : Addr).add 0 = ⟨g, k, none⟩ from rfl, hc, hu, hf]
  rw [e]
  exact h _ (hF.setCell hi k v)
end
end Go.Proofs.YtnhjgocdepbajaaGreat

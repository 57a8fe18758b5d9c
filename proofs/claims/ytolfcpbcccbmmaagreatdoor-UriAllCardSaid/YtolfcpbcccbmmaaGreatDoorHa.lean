/- Fields in memory: two cells each; loads and stores of whole fields; rows of fields. No condition of its own. -/
import Derived.Test.YtolfcpbcccbmmaaGreatDoorPa
import Derived.Test.YtolfcpbcccbmmaaGreatDoorSp
import Derived.Laws.StructEq
import Derived.Deep.MidRow
import Derived.Laws.Rows
set_option linter.unusedVariables false
set_option linter.unusedSimpArgs false
set_option maxRecDepth 20000
namespace Go.Proofs.YtolfcpbcccbmmaaGreatDoor
open Go.RowKit
structure Fl where
  n : List UInt8
  v : List UInt8
  deriving DecidableEq
def Fl.cells (f : Fl) : List Value := [strV f.n, strV f.v]
def Fl.arr (f : Fl) : Array Value := f.cells.toArray
theorem Fl.len (f : Fl) : f.cells.length = 2 := rfl
theorem Fl.sz (f : Fl) : f.arr.size = 2 := rfl
theorem Fl.at0 (f : Fl) : f.arr[0]? = some (.string ⟨f.n.toArray⟩) := rfl
theorem Fl.at1 (f : Fl) : f.arr[1]? = some (.string ⟨f.v.toArray⟩) := rfl
theorem arr_of (a b : List UInt8) : (#[.string ⟨a.toArray⟩, .string ⟨b.toArray⟩] : Array Value) = (Fl.mk a b).arr := rfl
theorem zero_of : (#[.string ⟨#[]⟩, .string ⟨#[]⟩] : Array Value) = (Fl.mk [] []).arr := rfl
/-- values written into an array one by one -/
def putAll (cur : Array Value) : Nat → List Value → Array Value
  | _, [] => cur
  | o, v :: r => putAll (cur.setIfInBounds o v) (o + 1) r
theorem putAll_size : ∀ (vs : List Value) (o : Nat) (cur : Array Value), (putAll cur o vs).size = cur.size
  | [], _, _ => rfl
  | v :: r, o, cur => by rw [putAll, putAll_size r]; simp
theorem putAll_at : ∀ (vs : List Value) (o : Nat) (cur : Array Value), o + vs.length ≤ cur.size → ∀ j, (putAll cur o vs)[j]? = if o ≤ j ∧ j < o + vs.length then vs[j - o]? else cur[j]?
  | [], o, cur, _, j => by rw [putAll, if_neg (fun h => by have := h.1; have := h.2; simp at this; omega)]
  | v :: r, o, cur, h, j => by
    rw [putAll, putAll_at r (o + 1) _ (by simp at h ⊢; omega)]
    by_cases h1 : j = o
    · subst h1
      rw [if_neg (by omega), if_pos (by simp)]
      simp at h
      simp [Array.getElem?_setIfInBounds, show j < cur.size by omega]
    · by_cases h2 : o + 1 ≤ j ∧ j < o + 1 + r.length
      · rw [if_pos h2, if_pos (by simp; omega), show j - o = j - (o + 1) + 1 by omega]
        simp
      · rw [if_neg h2, if_neg (by simp; omega), Array.getElem?_setIfInBounds, if_neg (fun e => h1 e.symm)]
theorem putAll_whole (vs : List Value) (cur : Array Value) (h : cur.size = vs.length) : putAll cur 0 vs = vs.toArray := by
  apply Array.ext_getElem?
  intro j
  rw [putAll_at vs 0 cur (by omega)]
  by_cases hj : j < vs.length
  · rw [if_pos (by omega)]; simp
  · rw [if_neg (by omega), Array.getElem?_eq_none (by omega), Array.getElem?_eq_none (by simp; omega)]
theorem setCells_row (g : Nat) (t : TypeId) : ∀ (vs : List Value) (o : Nat) (w : World) (cur : Array Value), w.heap[g]? = some (.cells cur t (0, 0)) → w.setCells g o vs = w.setRow g (putAll cur o vs)
  | [], o, w, cur, h => (setRow_self w g cur t (0, 0) h).symm
  | v :: r, o, w, cur, h => by
    have h2 := heap_setCell_same w g o cur t v h
    rw [World.setCells, setCells_row g t r (o + 1) _ _ h2, setCell_eq_setRow w g o cur t (0, 0) v h, setRow_setRow, putAll]
theorem alloc_setRow (w : World) (cur cs : Array Value) (t : TypeId) : (w.alloc (.cells cur t)).setRow w.heap.size cs = w.alloc (.cells cs t) := by
  unfold World.alloc World.setRow
  congr 1
  apply Array.ext_getElem?
  intro j
  simp only [Array.getElem?_modify, Array.getElem?_push]
  by_cases h : w.heap.size = j
  · simp [h]
  · simp [h, show ¬ j = w.heap.size from fun e => h e.symm]
variable {P : Program}
/-- a whole record is stored into the block that was just laid -/
theorem wpList_store_fresh {ops : Array Oper} {rest : List Oper} {op : Oper} {a : Act} (w : World) {Q : Exit → Act → World → Prop} (hgd : op.guard = none) (ty : TypeId) (x y : Operand) (ho : op.op = .store ty x y)
    (cur cells : Array Value) (t : TypeId) (hx : a.eval x = .pointer (some ⟨w.heap.size, 0, none⟩)) (hy : a.eval y = .agg cells) (hs : cur.size = cells.size)
    (hi : (P.info? ty).map (·.size) = some cells.size) (h1 : cells.all (·.oneCell') = true)
    (h : wpList P ops Q rest (a.put op.dst undef) (w.alloc (.cells cells t))) : wpList P ops Q (op :: rest) a (w.alloc (.cells cur t)) := by
  have hb := Blk.new w t cur
  refine wpList_store_mid hgd ty x y ho w.heap.size 0 cells hx hy (fun j hj => ?_) hi h1 ?_
  · rw [show 0 + j = j by omega, hb.cell]
    exact ⟨by rw [Array.getElem?_eq_getElem (by omega)]; rfl, hb.frozen j⟩
  · rw [setCells_row w.heap.size t cells.toList 0 _ cur hb, putAll_whole _ _ (by simpa using hs), alloc_setRow]
    simpa using h
/-- a whole record is stored into a block that is known whole -/
theorem wpList_store_blk {ops : Array Oper} {rest : List Oper} {op : Oper} {a : Act} {w : World} {Q : Exit → Act → World → Prop} (hgd : op.guard = none) (ty : TypeId) (x y : Operand) (ho : op.op = .store ty x y)
    (g : Nat) (cur cells : Array Value) (t : TypeId) (hx : a.eval x = .pointer (some ⟨g, 0, none⟩)) (hy : a.eval y = .agg cells) (hb : Blk w g t cur) (hs : cur.size = cells.size)
    (hi : (P.info? ty).map (·.size) = some cells.size) (h1 : cells.all (·.oneCell') = true)
    (h : wpList P ops Q rest (a.put op.dst undef) (w.setRow g cells)) : wpList P ops Q (op :: rest) a w := by
  refine wpList_store_mid hgd ty x y ho g 0 cells hx hy (fun j hj => ?_) hi h1 ?_
  · rw [show 0 + j = j by omega, hb.cell]
    exact ⟨by rw [Array.getElem?_eq_getElem (by omega)]; rfl, hb.frozen j⟩
  · rw [setCells_row g t cells.toList 0 _ cur hb, putAll_whole _ _ (by simpa using hs)]
    simpa using h
theorem run_loadVar_at (w : World) (ad : Addr) (ty : TypeId) (cs : List Value) (d : TypeDesc) (hc : ∀ j u, cs[j]? = some u → w.cell? (ad.add j) = some u)
    (hu : P.underlying ty = some d) (hd : (match d with | .struct _ | .array _ _ => true | _ => false) = true) (hi : (P.info? ty).map (·.size) = some cs.length) :
    (loadVar ty ad).run P w = .ok (.agg cs.toArray) w := by
  have hl : (loadCells ad cs.length).run P w = .ok cs.toArray w := run_loadCells_list (P := P) w ad cs hc
  cases hq : P.info? ty with
  | none => simp [hq] at hi
  | some i =>
    have hs : i.size = cs.length := by simpa [hq] using hi
    have hagg : (isAgg ty).run P w = .ok true w := by
      unfold isAgg
      rw [Sem.run_bind, run_underlying hu w]
      cases d <;> simp_all
    simp [loadVar, Sem.run_bind, hagg, sizeOf, typeInfo, hq, hs, hl]
theorem wp_load_at {o : Oper} {a : Act} {w : World} {K : Act → World → Prop} {Q : Exit → Act → World → Prop} (ty : TypeId) (x : Operand) (ho : o.op = .load ty x)
    (ad : Addr) (hx : a.eval x = .pointer (some ad)) (cs : List Value) (d : TypeDesc) (hc : ∀ j u, cs[j]? = some u → w.cell? (ad.add j) = some u)
    (hu : P.underlying ty = some d) (hd : (match d with | .struct _ | .array _ _ => true | _ => false) = true) (hi : (P.info? ty).map (·.size) = some cs.length)
    (h : K (a.put o.dst (.agg cs.toArray)) w) : o.wp P a w K Q := by
  unfold Oper.wp execOp
  simp only [ho, hx, Instr.loadAt, Instr.sureAddr, Sem.run_bind, Sem.run_pure, Result.andThen_ok, run_loadVar_at w ad ty cs d hc hu hd hi]
  exact h
theorem wpList_load_at {ops : Array Oper} {rest : List Oper} {o : Oper} {a : Act} {w : World} {Q : Exit → Act → World → Prop} (hgd : o.guard = none) (ty : TypeId) (x : Operand) (ho : o.op = .load ty x)
    (ad : Addr) (hx : a.eval x = .pointer (some ad)) (cs : List Value) (d : TypeDesc) (hc : ∀ j u, cs[j]? = some u → w.cell? (ad.add j) = some u)
    (hu : P.underlying ty = some d) (hd : (match d with | .struct _ | .array _ _ => true | _ => false) = true) (hi : (P.info? ty).map (·.size) = some cs.length)
    (h : wpList P ops Q rest (a.put o.dst (.agg cs.toArray)) w) : wpList P ops Q (o :: rest) a w :=
  wpList_plain hgd fun _ hK => wp_load_at ty x ho ad hx cs d hc hu hd hi (hK _ _ h)
def fCells (fs : List Fl) : List Value := fs.flatMap Fl.cells
theorem fCells_len (fs : List Fl) : (fCells fs).length = 2 * fs.length := by
  induction fs with
  | nil => rfl
  | cons f fs ih => rw [fCells, List.flatMap_cons, List.length_append, Fl.len, ← fCells, ih, List.length_cons]; omega
theorem fCells_append (a b : List Fl) : fCells (a ++ b) = fCells a ++ fCells b := by simp [fCells]
theorem fCells_take (fs : List Fl) (k : Nat) : fCells (fs.take k) = (fCells fs).take (k * 2) := by
  by_cases h : k ≤ fs.length
  · have e : fCells fs = fCells (fs.take k) ++ fCells (fs.drop k) := by rw [← fCells_append, List.take_append_drop]
    have hl : (fCells (fs.take k)).length = k * 2 := by rw [fCells_len, List.length_take]; omega
    rw [e, ← hl, List.take_left]
  · rw [List.take_of_length_le (by omega), List.take_of_length_le (by rw [fCells_len]; omega)]
theorem fCells_at : ∀ (fs : List Fl) (k : Nat) (f : Fl), fs[k]? = some f → ∀ j, j < 2 → (fCells fs)[2 * k + j]? = f.cells[j]?
  | [], k, f, h, j, _ => by simp at h
  | x :: fs, 0, f, h, j, hj => by
    simp at h
    subst h
    rw [fCells, List.flatMap_cons, List.getElem?_append_left (by rw [Fl.len]; omega)]
    simp
  | x :: fs, k + 1, f, h, j, hj => by
    rw [fCells, List.flatMap_cons, List.getElem?_append_right (by rw [Fl.len]; omega), Fl.len, show 2 * (k + 1) + j - 2 = 2 * k + j by omega]
    exact fCells_at fs k f (by simpa using h) j hj
theorem fl_at {w : World} {B n : Nat} {ad : Addr} {fs : List Fl} (h : Reads w B 2 (some ad) n (fCells fs)) {k : Nat} {f : Fl} (hk : fs[k]? = some f) : ∀ j u, f.cells[j]? = some u → w.cell? ((ad.add (k * 2)).add j) = some u := by
  intro j u hu
  have hj : j < 2 := by
    have := (List.getElem?_eq_some_iff.1 hu).1
    rwa [Fl.len] at this
  have hkl := (List.getElem?_eq_some_iff.1 hk).1
  have hl := h.1
  rw [fCells_len] at hl
  obtain ⟨ad2, e, _, hc⟩ := h.2 (by omega)
  injection e with e
  subst e
  rw [add_of_add, show k * 2 + j = 2 * k + j by omega]
  exact hc _ u ((fCells_at fs k f hk j hj).trans hu)
theorem Fl.ones (f : Fl) : f.arr.all (·.oneCell') = true := by
  rw [Array.all_eq_true_iff_forall_mem]
  intro v hv
  simp [Fl.arr, Fl.cells, strV] at hv
  rcases hv with rfl | rfl <;> rfl
theorem fCells_ones (fs : List Fl) : ∀ u ∈ fCells fs, u.oneCell' = true := by
  intro u hu
  rw [fCells, List.mem_flatMap] at hu
  obtain ⟨f, _, hu⟩ := hu
  simp [Fl.cells, strV] at hu
  rcases hu with rfl | rfl <;> rfl
theorem fl_size : (Tryz.prog.info? 57).map (·.size) = some 2 := by kernel_rfl
theorem info_fl : (Tryz.prog.info? 57).map (fun i => (i.zero, i.size, i.bytes)) = some (some (.agg (Fl.mk [] []).arr), 2, 32) := by kernel_rfl
theorem wpList_load_fl {ops : Array Oper} {rest : List Oper} {o : Oper} {a : Act} {w : World} {Q : Exit → Act → World → Prop} (hgd : o.guard = none) (x : Operand) (ho : o.op = .load 57 x)
    (ad : Addr) (hx : a.eval x = .pointer (some ad)) (f : Fl) (hc : ∀ j u, f.cells[j]? = some u → w.cell? (ad.add j) = some u)
    (h : wpList Tryz.prog ops Q rest (a.put o.dst (.agg f.arr)) w) : wpList Tryz.prog ops Q (o :: rest) a w :=
  wpList_load_at hgd 57 x ho ad hx f.cells _ hc Tryz.underlying57 rfl fl_size h
theorem wpList_store_fl {ops : Array Oper} {rest : List Oper} {op : Oper} {a : Act} (w : World) {Q : Exit → Act → World → Prop} {f : Fl} (hgd : op.guard = none) (x y : Operand) (ho : op.op = .store 57 x y)
    (hx : a.eval x = .pointer (some ⟨w.heap.size, 0, none⟩)) (hy : a.eval y = .agg f.arr)
    (h : wpList Tryz.prog ops Q rest (a.put op.dst undef) (w.alloc (.cells f.arr 57))) : wpList Tryz.prog ops Q (op :: rest) a (w.alloc (.cells #[.string ⟨#[]⟩, .string ⟨#[]⟩] 57)) :=
  wpList_store_fresh w hgd 57 x y ho #[.string ⟨#[]⟩, .string ⟨#[]⟩] f.arr 57 hx hy rfl fl_size f.ones h
/-- a whole field is stored into a block that bears one -/
theorem wpList_store_fl2 {ops : Array Oper} {rest : List Oper} {op : Oper} {a : Act} {w : World} {Q : Exit → Act → World → Prop} {f0 f : Fl} (hgd : op.guard = none) (x y : Operand) (ho : op.op = .store 57 x y)
    (g : Nat) (hb : Blk w g 57 f0.arr) (hx : a.eval x = .pointer (some ⟨g, 0, none⟩)) (hy : a.eval y = .agg f.arr)
    (h : wpList Tryz.prog ops Q rest (a.put op.dst undef) (w.setRow g f.arr)) : wpList Tryz.prog ops Q (op :: rest) a w :=
  wpList_store_blk hgd 57 x y ho g f0.arr f.arr 57 hx hy hb rfl fl_size f.ones h
theorem blk_fl {w : World} {g : Nat} {t : TypeId} {f : Fl} (h : Blk w g t f.arr) : ∀ j u, f.cells[j]? = some u → w.cell? ((⟨g, 0, none⟩ : Addr).add j) = some u := by
  intro j u hu
  rw [show ((⟨g, 0, none⟩ : Addr).add j) = ⟨g, j, none⟩ by unfold Addr.add; split <;> simp_all, h.cell j]
  simpa [Fl.arr] using hu
/-- a row of fields that may be read -/
def FsAt (w : World) (A : Option Addr) (c : Nat) (fs : List Fl) : Prop := fs.length ≤ c ∧ fs.length ≤ 1000000 ∧ Reads w w.heap.size 2 A fs.length (fCells fs)
theorem FsAt.below {w w' : World} {A : Option Addr} {c : Nat} {fs : List Fl} (h : FsAt w A c fs) (hb : Below w.heap.size w w') : FsAt w' A c fs := ⟨h.1, h.2.1, (h.2.2.below hb).more hb.size⟩
theorem FsAt.drewN {w : World} {A : Option Addr} {c : Nat} {fs : List Fl} (h : FsAt w A c fs) (q : Nat) : FsAt (w.drewN q) A c fs := h
theorem FsAt.none_ (w : World) (A : Option Addr) (c : Nat) : FsAt w A c [] := ⟨Nat.zero_le _, by simp, Reads.none_⟩
theorem FsAt.own {w : World} {base : Nat} {T : TypeId} {v : Value} {fs : List Fl} (h : w.ownsRow base T 2 v fs.length (fCells fs)) (hm : fs.length ≤ 1000000) : ∃ A c, v = .slice A fs.length c ∧ FsAt w A c fs := by
  obtain ⟨A, c, e, hc, hr⟩ := own_reads h (Nat.le_refl _)
  exact ⟨A, c, e, hc, hm, hr⟩
theorem fl_next {w : World} {B : Nat} {T : TypeId} {v : Value} {l : List Fl} {f : Fl} {l' : List Fl} {cs : List Value} (h : w.ownsRow B T 2 v (l.length + 1) (fCells l ++ cs)) (hc : cs = f.cells) (e : l' = l ++ [f]) : w.ownsRow B T 2 v l'.length (fCells l') := by
  subst e hc
  rw [fCells_append, List.length_append]
  simpa [fCells] using h
theorem own_only {w w' : World} {g base : Nat} {e : TypeId} {size n : Nat} {v : Value} {xs : List Value} (h : w.ownsRow base e size v n xs) (hg : w.grownBy w' (some g)) (hlt : g < base) : w'.ownsRow base e size v n xs := by
  refine h.kept hg (.inr (fun e => ?_))
  have := h.lt g e
  omega
theorem below_only {B g : Nat} {a w w' : World} (h : Below B a w) (hg : w.grownBy w' (some g)) (hB : B ≤ g) (hw : B ≤ w.heap.size) : Below B a w' :=
  h.grown hg hw (fun r e => by injection e with e; omega)
end Go.Proofs.YtolfcpbcccbmmaaGreatDoor

/- Records in memory: fifteen cells each; loads and stores of whole records. No condition of its own. -/
import Derived.Test.YtbkembafdhjbkaaKit
import Derived.Laws.StructEq
import Derived.Deep.MidRow
import Derived.Laws.Rows
set_option linter.unusedVariables false
namespace Go.Proofs.Ytbkembafdhjbkaa
open Go.RowKit
theorem below_next {w0 w1 w2 : World} (h : Below w0.heap.size w0 w1) (k : Below w1.heap.size w1 w2) : Below w0.heap.size w0 w2 := h.trans (k.mono h.size)
structure Rc where
  kind : Int
  key : Int
  till : Int
  used : Bool
  client : Int
  user : Int
  sess : Int
  fam : Int
  s1 : ByteArray
  s2 : ByteArray
  s3 : ByteArray
  s4 : ByteArray
  s5 : ByteArray
  s6 : ByteArray
  s7 : ByteArray
  deriving DecidableEq
def Rc.cells (r : Rc) : List Value := [.int .i64 r.kind, .int .i64 r.key, .int .i64 r.till, .bool r.used, .int .i64 r.client, .int .i64 r.user, .int .i64 r.sess, .int .i64 r.fam, .string r.s1, .string r.s2, .string r.s3, .string r.s4, .string r.s5, .string r.s6, .string r.s7]
def Rc.arr (r : Rc) : Array Value := r.cells.toArray
theorem Rc.len (r : Rc) : r.cells.length = 15 := rfl
theorem Rc.sz (r : Rc) : r.arr.size = 15 := rfl
theorem Rc.at0 (r : Rc) : r.arr[0]? = some (.int .i64 r.kind) := rfl
theorem Rc.at1 (r : Rc) : r.arr[1]? = some (.int .i64 r.key) := rfl
theorem Rc.at2 (r : Rc) : r.arr[2]? = some (.int .i64 r.till) := rfl
theorem Rc.at3 (r : Rc) : r.arr[3]? = some (.bool r.used) := rfl
theorem Rc.at4 (r : Rc) : r.arr[4]? = some (.int .i64 r.client) := rfl
theorem Rc.at5 (r : Rc) : r.arr[5]? = some (.int .i64 r.user) := rfl
theorem Rc.at6 (r : Rc) : r.arr[6]? = some (.int .i64 r.sess) := rfl
theorem Rc.at7 (r : Rc) : r.arr[7]? = some (.int .i64 r.fam) := rfl
theorem Rc.at8 (r : Rc) : r.arr[8]? = some (.string r.s1) := rfl
theorem dlive_walk (a b : Int) (w : World) : Calls Try.prog 46 #[.int .i64 a, .int .i64 b] w fun e w' => e = .returned (.bool (decide (a < b))) ∧ w = w' := by
  go_enter Try.func46, Try.ntmps46
  go_wp2_with fail
  go_ret
  exact ⟨rfl, rfl⟩
theorem rdlive_walk (a b : Int) (w : World) : Calls Try.prog 47 #[.int .i64 a, .int .i64 b] w fun e w' => e = .returned (.bool (decide (a < b))) ∧ w = w' := by
  go_enter Try.func47, Try.ntmps47
  go_wp2_with fail
  go_ret
  exact ⟨rfl, rfl⟩
/-- a function value that tells of a record whether it is wanted -/
def Tells (F : FuncId) (caps : Array Value) (w0 : World) (p : Rc → Bool) : Prop :=
  (∀ (args : Array Value) (w : World), (callFunc F args).run Try.prog w = .ok (.enter F args) w) ∧
  ∀ (r : Rc) (w : World), Below w0.heap.size w0 w → Calls Try.prog F (#[.agg r.arr] ++ caps) w fun e w' => e = .returned (.bool (p r)) ∧ Below w.heap.size w w'
set_option maxHeartbeats 400000 in
theorem live1_walk (g : Nat) (now : Int) (w0 : World) (hc : w0.cell? ⟨g, 0, none⟩ = some (.int .i64 now)) :
    Tells 45 #[.pointer (some ⟨g, 0, none⟩)] w0 fun r => decide (now < r.till) := by
  refine ⟨fun args w => by kernel_rfl, fun r w hb => ?_⟩
  replace hc := (hb.cell (World.block_lt_of_cell? w0 _ hc)).trans hc
  have h2 := r.at2
  have hg := World.block_lt_of_cell? w _ hc
  have hb := Below.refl w.heap.size w
  go_enter Try.func45, Try.ntmps45
  go_wp2_with fail
  refine (dlive_walk _ _ _).mono ?_
  rintro _ w1 ⟨rfl, rfl⟩
  go_wp2_with fail
  go_ret
  exact ⟨rfl, hb.alloc hb.size _⟩
set_option maxHeartbeats 400000 in
theorem room1_walk (g : Nat) (kind : Int) (w0 : World) (hc : w0.cell? ⟨g, 0, none⟩ = some (.int .i64 kind)) :
    Tells 39 #[.pointer (some ⟨g, 0, none⟩)] w0 fun r => r.kind == kind := by
  refine ⟨fun args w => by kernel_rfl, fun r w hb => ?_⟩
  replace hc := (hb.cell (World.block_lt_of_cell? w0 _ hc)).trans hc
  have h2 := r.at0
  have hg := World.block_lt_of_cell? w _ hc
  have hb := Below.refl w.heap.size w
  go_enter Try.func39, Try.ntmps39
  go_wp2_with fail
  go_ret
  exact ⟨rfl, hb.alloc hb.size _⟩
set_option maxHeartbeats 400000 in
theorem put1_walk (g : Nat) (key : Int) (w0 : World) (hc : w0.cell? ⟨g, 1, none⟩ = some (.int .i64 key)) :
    Tells 37 #[.pointer (some ⟨g, 0, none⟩)] w0 fun r => r.key == key := by
  refine ⟨fun args w => by kernel_rfl, fun r w hb => ?_⟩
  replace hc := (hb.cell (World.block_lt_of_cell? w0 _ hc)).trans hc
  have h2 := r.at1
  have hg := World.block_lt_of_cell? w _ hc
  have hb := Below.refl w.heap.size w
  go_enter Try.func37, Try.ntmps37
  go_wp2_with fail
  go_ret
  exact ⟨rfl, hb.alloc hb.size _⟩
set_option maxHeartbeats 800000 in
theorem revoke1_walk (g : Nat) (fam : Int) (w0 : World) (hc : w0.cell? ⟨g, 0, none⟩ = some (.int .i64 fam)) :
    Tells 40 #[.pointer (some ⟨g, 0, none⟩)] w0 fun r => (r.kind != 5 && r.kind != 6) || r.fam != fam := by
  refine ⟨fun args w => by kernel_rfl, fun r w hb => ?_⟩
  replace hc := (hb.cell (World.block_lt_of_cell? w0 _ hc)).trans hc
  have h2 := r.at0
  have h3 := r.at7
  have hg := World.block_lt_of_cell? w _ hc
  have hb := Below.refl w.heap.size w
  show Calls _ _ _ _ fun e w' => e = .returned (.bool ((r.kind != 5 && r.kind != 6) || r.fam != fam)) ∧ Below w.heap.size w w'
  generalize r.kind = k at h2 ⊢
  generalize r.fam = f at h3 ⊢
  go_enter Try.func40, Try.ntmps40
  go_wp2_with fail
  all_goals
    go_ret
    exact ⟨by first | rfl | simp [*], hb.alloc hb.size _⟩
set_option maxHeartbeats 800000 in
theorem at1_walk (g g' : Nat) (kind key : Int) (w0 : World) (hc : w0.cell? ⟨g, 0, none⟩ = some (.int .i64 kind)) (hc' : w0.cell? ⟨g', 0, none⟩ = some (.int .i64 key)) :
    Tells 50 #[.pointer (some ⟨g, 0, none⟩), .pointer (some ⟨g', 0, none⟩)] w0 fun r => r.kind == kind && r.key == key := by
  refine ⟨fun args w => by kernel_rfl, fun r w hb => ?_⟩
  replace hc := (hb.cell (World.block_lt_of_cell? w0 _ hc)).trans hc
  replace hc' := (hb.cell (World.block_lt_of_cell? w0 _ hc')).trans hc'
  have h2 := r.at0
  have h3 := r.at1
  have hg := World.block_lt_of_cell? w _ hc
  have hg' := World.block_lt_of_cell? w _ hc'
  have hb := Below.refl w.heap.size w
  show Calls _ _ _ _ fun e w' => e = .returned (.bool (r.kind == kind && r.key == key)) ∧ Below w.heap.size w w'
  generalize r.kind = k at h2 ⊢
  generalize r.key = f at h3 ⊢
  go_enter Try.func50, Try.ntmps50
  go_wp2_with fail
  all_goals
    go_ret
    exact ⟨by first | rfl | simp [*], hb.alloc hb.size _⟩
/-- values written into an array one by one -/
def putAll (cur : Array Value) : Nat → List Value → Array Value
  | _, [] => cur
  | o, v :: r => putAll (cur.setIfInBounds o v) (o + 1) r
theorem putAll_size : ∀ (vs : List Value) (o : Nat) (cur : Array Value), (putAll cur o vs).size = cur.size
  | [], _, _ => rfl
  | v :: r, o, cur => by rw [putAll, putAll_size r]; simp
theorem putAll_at : ∀ (vs : List Value) (o : Nat) (cur : Array Value), o + vs.length ≤ cur.size → ∀ j, (putAll cur o vs)[j]? = if o ≤ j ∧ j < o + vs.length then vs[j - o]? else cur[j]?
  | [], o, cur, _, j => by rw [putAll, if_neg (fun h => by have := h.1; have := h.2; simp at this; omega)]
  | v :: r, o, cur, h, j => by
    rw [putAll, putAll_at r (o + 1) _ (by simp at h ⊢; omega)]
    by_cases h1 : j = o
    · subst h1
      rw [if_neg (by omega), if_pos (by simp)]
      simp at h
      simp [Array.getElem?_setIfInBounds, show j < cur.size by omega]
    · by_cases h2 : o + 1 ≤ j ∧ j < o + 1 + r.length
      · rw [if_pos h2, if_pos (by simp; omega), show j - o = j - (o + 1) + 1 by omega]
        simp
      · rw [if_neg h2, if_neg (by simp; omega), Array.getElem?_setIfInBounds, if_neg (fun e => h1 e.symm)]
theorem putAll_whole (vs : List Value) (cur : Array Value) (h : cur.size = vs.length) : putAll cur 0 vs = vs.toArray := by
  apply Array.ext_getElem?
  intro j
  rw [putAll_at vs 0 cur (by omega)]
  by_cases hj : j < vs.length
  · rw [if_pos (by omega)]; simp
  · rw [if_neg (by omega), Array.getElem?_eq_none (by omega), Array.getElem?_eq_none (by simp; omega)]
theorem setCells_row (g : Nat) (t : TypeId) : ∀ (vs : List Value) (o : Nat) (w : World) (cur : Array Value), w.heap[g]? = some (.cells cur t (0, 0)) → w.setCells g o vs = w.setRow g (putAll cur o vs)
  | [], o, w, cur, h => (setRow_self w g cur t (0, 0) h).symm
  | v :: r, o, w, cur, h => by
    have h2 := heap_setCell_same w g o cur t v h
    rw [World.setCells, setCells_row g t r (o + 1) _ _ h2, setCell_eq_setRow w g o cur t (0, 0) v h, setRow_setRow, putAll]
theorem alloc_setRow (w : World) (cur cs : Array Value) (t : TypeId) : (w.alloc (.cells cur t)).setRow w.heap.size cs = w.alloc (.cells cs t) := by
  unfold World.alloc World.setRow
  congr 1
  apply Array.ext_getElem?
  intro j
  simp only [Array.getElem?_modify, Array.getElem?_push]
  by_cases h : w.heap.size = j
  · simp [h]
  · simp [h, show ¬ j = w.heap.size from fun e => h e.symm]
variable {P : Program}
/-- a whole record is stored into the block that was just laid -/
theorem wpList_store_fresh {ops : Array Oper} {rest : List Oper} {op : Oper} {a : Act} (w : World) {Q : Exit → Act → World → Prop} (hgd : op.guard = none) (ty : TypeId) (x y : Operand) (ho : op.op = .store ty x y)
    (cur cells : Array Value) (t : TypeId) (hx : a.eval x = .pointer (some ⟨w.heap.size, 0, none⟩)) (hy : a.eval y = .agg cells) (hs : cur.size = cells.size)
    (hi : (P.info? ty).map (·.size) = some cells.size) (h1 : cells.all (·.oneCell') = true)
    (h : wpList P ops Q rest (a.put op.dst undef) (w.alloc (.cells cells t))) : wpList P ops Q (op :: rest) a (w.alloc (.cells cur t)) := by
  have hb := Blk.new w t cur
  refine wpList_store_mid hgd ty x y ho w.heap.size 0 cells hx hy (fun j hj => ?_) hi h1 ?_
  · rw [show 0 + j = j by omega, hb.cell]
    exact ⟨by rw [Array.getElem?_eq_getElem (by omega)]; rfl, hb.frozen j⟩
  · rw [setCells_row w.heap.size t cells.toList 0 _ cur hb, putAll_whole _ _ (by simpa using hs), alloc_setRow]
    simpa using h
/-- a whole record is stored into a block that is known whole -/
theorem wpList_store_blk {ops : Array Oper} {rest : List Oper} {op : Oper} {a : Act} {w : World} {Q : Exit → Act → World → Prop} (hgd : op.guard = none) (ty : TypeId) (x y : Operand) (ho : op.op = .store ty x y)
    (g : Nat) (cur cells : Array Value) (t : TypeId) (hx : a.eval x = .pointer (some ⟨g, 0, none⟩)) (hy : a.eval y = .agg cells) (hb : Blk w g t cur) (hs : cur.size = cells.size)
    (hi : (P.info? ty).map (·.size) = some cells.size) (h1 : cells.all (·.oneCell') = true)
    (h : wpList P ops Q rest (a.put op.dst undef) (w.setRow g cells)) : wpList P ops Q (op :: rest) a w := by
  refine wpList_store_mid hgd ty x y ho g 0 cells hx hy (fun j hj => ?_) hi h1 ?_
  · rw [show 0 + j = j by omega, hb.cell]
    exact ⟨by rw [Array.getElem?_eq_getElem (by omega)]; rfl, hb.frozen j⟩
  · rw [setCells_row g t cells.toList 0 _ cur hb, putAll_whole _ _ (by simpa using hs)]
    simpa using h
theorem run_loadVar_at (w : World) (ad : Addr) (ty : TypeId) (cs : List Value) (d : TypeDesc) (hc : ∀ j u, cs[j]? = some u → w.cell? (ad.add j) = some u)
    (hu : P.underlying ty = some d) (hd : (match d with | .struct _ | .array _ _ => true | _ => false) = true) (hi : (P.info? ty).map (·.size) = some cs.length) :
    (loadVar ty ad).run P w = .ok (.agg cs.toArray) w := by
  have hl : (loadCells ad cs.length).run P w = .ok cs.toArray w := run_loadCells_list (P := P) w ad cs hc
  cases hq : P.info? ty with
  | none => simp [hq] at hi
  | some i =>
    have hs : i.size = cs.length := by simpa [hq] using hi
    have hagg : (isAgg ty).run P w = .ok true w := by
      unfold isAgg
      rw [Sem.run_bind, run_underlying hu w]
      cases d <;> simp_all
    simp [loadVar, Sem.run_bind, hagg, sizeOf, typeInfo, hq, hs, hl]
theorem wp_load_at {o : Oper} {a : Act} {w : World} {K : Act → World → Prop} {Q : Exit → Act → World → Prop} (ty : TypeId) (x : Operand) (ho : o.op = .load ty x)
    (ad : Addr) (hx : a.eval x = .pointer (some ad)) (cs : List Value) (d : TypeDesc) (hc : ∀ j u, cs[j]? = some u → w.cell? (ad.add j) = some u)
    (hu : P.underlying ty = some d) (hd : (match d with | .struct _ | .array _ _ => true | _ => false) = true) (hi : (P.info? ty).map (·.size) = some cs.length)
    (h : K (a.put o.dst (.agg cs.toArray)) w) : o.wp P a w K Q := by
  unfold Oper.wp execOp
  simp only [ho, hx, Instr.loadAt, Instr.sureAddr, Sem.run_bind, Sem.run_pure, Result.andThen_ok, run_loadVar_at w ad ty cs d hc hu hd hi]
  exact h
theorem wpList_load_at {ops : Array Oper} {rest : List Oper} {o : Oper} {a : Act} {w : World} {Q : Exit → Act → World → Prop} (hgd : o.guard = none) (ty : TypeId) (x : Operand) (ho : o.op = .load ty x)
    (ad : Addr) (hx : a.eval x = .pointer (some ad)) (cs : List Value) (d : TypeDesc) (hc : ∀ j u, cs[j]? = some u → w.cell? (ad.add j) = some u)
    (hu : P.underlying ty = some d) (hd : (match d with | .struct _ | .array _ _ => true | _ => false) = true) (hi : (P.info? ty).map (·.size) = some cs.length)
    (h : wpList P ops Q rest (a.put o.dst (.agg cs.toArray)) w) : wpList P ops Q (o :: rest) a w :=
  wpList_plain hgd fun _ hK => wp_load_at ty x ho ad hx cs d hc hu hd hi (hK _ _ h)
def recCells (rs : List Rc) : List Value := rs.flatMap Rc.cells
theorem recCells_len (rs : List Rc) : (recCells rs).length = 15 * rs.length := by
  induction rs with
  | nil => rfl
  | cons r rs ih => rw [recCells, List.flatMap_cons, List.length_append, Rc.len, ← recCells, ih, List.length_cons]; omega
theorem recCells_append (a b : List Rc) : recCells (a ++ b) = recCells a ++ recCells b := by simp [recCells]
theorem recCells_at : ∀ (rs : List Rc) (k : Nat) (r : Rc), rs[k]? = some r → ∀ j, j < 15 → (recCells rs)[15 * k + j]? = r.cells[j]?
  | [], k, r, h, j, _ => by simp at h
  | x :: rs, 0, r, h, j, hj => by
    simp at h
    subst h
    rw [recCells, List.flatMap_cons, List.getElem?_append_left (by rw [Rc.len]; omega)]
    simp
  | x :: rs, k + 1, r, h, j, hj => by
    rw [recCells, List.flatMap_cons, List.getElem?_append_right (by rw [Rc.len]; omega), Rc.len, show 15 * (k + 1) + j - 15 = 15 * k + j by omega]
    exact recCells_at rs k r (by simpa using h) j hj
theorem rec_at {w : World} {B n : Nat} {ad : Addr} {rs : List Rc} (h : Reads w B 15 (some ad) n (recCells rs)) {k : Nat} {r : Rc} (hk : rs[k]? = some r) : ∀ j u, r.cells[j]? = some u → w.cell? ((ad.add (k * 15)).add j) = some u := by
  intro j u hu
  have hj : j < 15 := by
    have := (List.getElem?_eq_some_iff.1 hu).1
    rwa [Rc.len] at this
  have hkl := (List.getElem?_eq_some_iff.1 hk).1
  have hl := h.1
  rw [recCells_len] at hl
  obtain ⟨ad2, e, _, hc⟩ := h.2 (by omega)
  injection e with e
  subst e
  rw [add_of_add, show k * 15 + j = 15 * k + j by omega]
  exact hc _ u ((recCells_at rs k r hk j hj).trans hu)
theorem Rc.ones (r : Rc) : r.arr.all (·.oneCell') = true := by
  rw [Array.all_eq_true_iff_forall_mem]
  intro v hv
  simp [Rc.arr, Rc.cells] at hv
  rcases hv with rfl | rfl | rfl | rfl | rfl | rfl | rfl | rfl | rfl | rfl | rfl | rfl | rfl | rfl | rfl <;> rfl
theorem recCells_ones (rs : List Rc) : ∀ u ∈ recCells rs, u.oneCell' = true := by
  intro u hu
  rw [recCells, List.mem_flatMap] at hu
  obtain ⟨r, _, hu⟩ := hu
  have := r.ones
  rw [Array.all_eq_true_iff_forall_mem] at this
  exact this u (by rw [Rc.arr]; simpa using hu)
theorem rec_size : (Try.prog.info? 32).map (·.size) = some 15 := by kernel_rfl
def Rc.none : Rc := ⟨0, 0, 0, false, 0, 0, 0, 0, ⟨#[]⟩, ⟨#[]⟩, ⟨#[]⟩, ⟨#[]⟩, ⟨#[]⟩, ⟨#[]⟩, ⟨#[]⟩⟩
theorem info_rec : (Try.prog.info? 32).map (fun i => (i.zero, i.size, i.bytes)) = some (some (.agg Rc.none.arr), 15, 176) := by kernel_rfl
theorem fold_rec (r : Rc) : Array.foldl (fun (cs : Array Value) (x : Value × Nat) => cs.setIfInBounds x.snd x.fst) #[.int .i64 0, .int .i64 0, .int .i64 0, .bool false, .int .i64 0, .int .i64 0, .int .i64 0, .int .i64 0, .string ⟨#[]⟩, .string ⟨#[]⟩, .string ⟨#[]⟩, .string ⟨#[]⟩, .string ⟨#[]⟩, .string ⟨#[]⟩, .string ⟨#[]⟩] (r.arr.zipIdx) 0 15 = r.arr := by kernel_rfl
theorem wpList_load_rec {ops : Array Oper} {rest : List Oper} {o : Oper} {a : Act} {w : World} {Q : Exit → Act → World → Prop} (hgd : o.guard = none) (x : Operand) (ho : o.op = .load 32 x)
    (ad : Addr) (hx : a.eval x = .pointer (some ad)) (r : Rc) (hc : ∀ j u, r.cells[j]? = some u → w.cell? (ad.add j) = some u)
    (h : wpList Try.prog ops Q rest (a.put o.dst (.agg r.arr)) w) : wpList Try.prog ops Q (o :: rest) a w :=
  wpList_load_at hgd 32 x ho ad hx r.cells _ hc Try.underlying32 rfl rec_size h
theorem blk_rec {w : World} {g : Nat} {t : TypeId} {r : Rc} (h : Blk w g t r.arr) : ∀ j u, r.cells[j]? = some u → w.cell? ((⟨g, 0, none⟩ : Addr).add j) = some u := by
  intro j u hu
  rw [show ((⟨g, 0, none⟩ : Addr).add j) = ⟨g, j, none⟩ by unfold Addr.add; split <;> simp_all, h.cell j]
  simpa [Rc.arr] using hu
end Go.Proofs.Ytbkembafdhjbkaa

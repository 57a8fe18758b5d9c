/- Records: the store of both sides. No condition of its own. -/
import Derived.Test.YtnhjgocdepbajaaGreatA1
import Derived.Deep.Onto
import Derived.Lib.MinMax
import Derived.Deep.RegionHeld3
set_option linter.unusedVariables false
set_option linter.unusedSimpArgs false
set_option maxRecDepth 20000
set_option maxHeartbeats 4000000
namespace Go.Proofs.YtnhjgocdepbajaaGreat
namespace S19
section
open Go.RowKit
theorem below_next {w0 w1 w2 : World} (h : Below w0.heap.size w0 w1) (k : Below w1.heap.size w1 w2) : Below w0.heap.size w0 w2 := h.trans (k.mono h.size)
structure Rc where
 kind : Int
 key : Int
 till : Int
 used : Bool
 client : Int
 user : Int
 sess : Int
 fam : Int
 s1 : ByteArray
 s2 : ByteArray
 s3 : ByteArray
 s4 : ByteArray
 s5 : ByteArray
 s6 : ByteArray
 s7 : ByteArray
 deriving DecidableEq
def Rc.cells (r : Rc) : List Value := [.int .i64 r.kind, .int .i64 r.key, .int .i64 r.till, .bool r.used, .int .i64 r.client, .int .i64 r.user, .int .i64 r.sess, .int .i64 r.fam, .string r.s1, .string r.s2, .string r.s3, .string r.s4, .string r.s5, .string r.s6, .string r.s7]
def Rc.arr (r : Rc) : Array Value := r.cells.toArray
theorem Rc.len (r : Rc) : r.cells.length = 15 := rfl
theorem Rc.sz (r : Rc) : r.arr.size = 15 := rfl
theorem Rc.at0 (r : Rc) : r.arr[0]? = some (.int .i64 r.kind) := rfl
theorem Rc.at1 (r : Rc) : r.arr[1]? = some (.int .i64 r.key) := rfl
theorem Rc.at2 (r : Rc) : r.arr[2]? = some (.int .i64 r.till) := rfl
theorem Rc.at7 (r : Rc) : r.arr[7]? = some (.int .i64 r.fam) := rfl
theorem dlive_walk (a b : Int) (w : World) : Calls Tryz.prog 118 #[.int .i64 a, .int .i64 b] w fun e w' => e = .returned (.bool (decide (a < b))) ∧ w = w' := by
 go_enter Tryz.func118, Tryz.ntmps118
 go_wp2_with fail
 go_ret
 exact ⟨rfl, rfl⟩
theorem rdlive_walk (a b : Int) (w : World) : Calls Tryz.prog 92 #[.int .i64 a, .int .i64 b] w fun e w' => e = .returned (.bool (decide (a < b))) ∧ w = w' := by
 go_enter Tryz.func92, Tryz.ntmps92
 go_wp2_with fail
 go_ret
 exact ⟨rfl, rfl⟩
def Tells (F : FuncId) (caps : Array Value) (w0 : World) (p : Rc → Bool) : Prop :=
 (∀ (args : Array Value) (w : World), (callFunc F args).run Tryz.prog w = .ok (.enter F args) w) ∧
 ∀ (r : Rc) (w : World), Below w0.heap.size w0 w → Calls Tryz.prog F (#[.agg r.arr] ++ caps) w fun e w' => e = .returned (.bool (p r)) ∧ Below w.heap.size w w'
theorem live1_walk (g : Nat) (now : Int) (w0 : World) (hc : w0.cell? ⟨g, 0, none⟩ = some (.int .i64 now)) :
  Tells 117 #[.pointer (some ⟨g, 0, none⟩)] w0 fun r => decide (now < r.till) := by
 refine ⟨fun args w => by kernel_rfl, fun r w hb => ?_⟩
 replace hc := (hb.cell (World.block_lt_of_cell? w0 _ hc)).trans hc
 have h2 := r.at2
 have hg := World.block_lt_of_cell? w _ hc
 have hb := Below.refl w.heap.size w
 go_enter Tryz.func117, Tryz.ntmps117
 go_wp2_with fail
 refine (dlive_walk _ _ _).mono ?_
 rintro _ w1 ⟨rfl, rfl⟩
 go_wp2_with fail
 go_ret
 exact ⟨rfl, hb.alloc hb.size _⟩
theorem revoke1_walk (g : Nat) (fam : Int) (w0 : World) (hc : w0.cell? ⟨g, 0, none⟩ = some (.int .i64 fam)) :
  Tells 79 #[.pointer (some ⟨g, 0, none⟩)] w0 fun r => (r.kind != 5 && r.kind != 6) || r.fam != fam := by
 refine ⟨fun args w => by kernel_rfl, fun r w hb => ?_⟩
 replace hc := (hb.cell (World.block_lt_of_cell? w0 _ hc)).trans hc
 have h2 := r.at0
 have h3 := r.at7
 have hg := World.block_lt_of_cell? w _ hc
 have hb := Below.refl w.heap.size w
 show Calls _ _ _ _ fun e w' => e = .returned (.bool ((r.kind != 5 && r.kind != 6) || r.fam != fam)) ∧ Below w.heap.size w w'
 generalize r.kind = k at h2 ⊢
 generalize r.fam = f at h3 ⊢
 go_enter Tryz.func79, Tryz.ntmps79
 go_wp2_with fail
 all_goals
  go_ret
  exact ⟨by first | rfl | simp [*], hb.alloc hb.size _⟩
theorem at1_walk (g g' : Nat) (kind key : Int) (w0 : World) (hc : w0.cell? ⟨g, 0, none⟩ = some (.int .i64 kind)) (hc' : w0.cell? ⟨g', 0, none⟩ = some (.int .i64 key)) :
  Tells 120 #[.pointer (some ⟨g, 0, none⟩), .pointer (some ⟨g', 0, none⟩)] w0 fun r => r.kind == kind && r.key == key := by
 refine ⟨fun args w => by kernel_rfl, fun r w hb => ?_⟩
 replace hc := (hb.cell (World.block_lt_of_cell? w0 _ hc)).trans hc
 replace hc' := (hb.cell (World.block_lt_of_cell? w0 _ hc')).trans hc'
 have h2 := r.at0
 have h3 := r.at1
 have hg := World.block_lt_of_cell? w _ hc
 have hg' := World.block_lt_of_cell? w _ hc'
 have hb := Below.refl w.heap.size w
 show Calls _ _ _ _ fun e w' => e = .returned (.bool (r.kind == kind && r.key == key)) ∧ Below w.heap.size w w'
 generalize r.kind = k at h2 ⊢
 generalize r.key = f at h3 ⊢
 go_enter Tryz.func120, Tryz.ntmps120
 go_wp2_with fail
 all_goals
  go_ret
  exact ⟨by first | rfl | simp [*], hb.alloc hb.size _⟩
def putAll (cur : Array Value) : Nat → List Value → Array Value
 | _, [] => cur
 | o, v :: r => putAll (cur.setIfInBounds o v) (o + 1) r
theorem putAll_size : ∀ (vs : List Value) (o : Nat) (cur : Array Value), (putAll cur o vs).size = cur.size
 | [], _, _ => rfl
 | v :: r, o, cur => by rw [putAll, putAll_size r]; simp
theorem putAll_at : ∀ (vs : List Value) (o : Nat) (cur : Array Value), o + vs.length ≤ cur.size → ∀ j, (putAll cur o vs)[j]? = if o ≤ j ∧ j < o + vs.length then vs[j - o]? else cur[j]?
 | [], o, cur, _, j => by rw [putAll, if_neg (fun h => by have := h.1; have := h.2; simp at this; omega)]
 | v :: r, o, cur, h, j => by
  rw [putAll, putAll_at r (o + 1) _ (by simp at h ⊢; omega)]
  by_cases h1 : j = o
  ·
   subst h1
   rw [if_neg (by omega), if_pos (by simp)]
   simp at h
   simp [Array.getElem?_setIfInBounds, show j < cur.size by omega]
  ·
   by_cases h2 : o + 1 ≤ j ∧ j < o + 1 + r.length
   ·
    rw [if_pos h2, if_pos (by simp; omega), show j - o = j - (o + 1) + 1 by omega]
    simp
   ·
    rw [if_neg h2, if_neg (by simp; omega), Array.getElem?_setIfInBounds, if_neg (fun e => h1 e.symm)]
theorem putAll_whole (vs : List Value) (cur : Array Value) (h : cur.size = vs.length) : putAll cur 0 vs = vs.toArray := by
 apply Array.ext_getElem?
 intro j
 rw [putAll_at vs 0 cur (by omega)]
 by_cases hj : j < vs.length
 ·
  rw [if_pos (by omega)]; simp
 ·
  rw [if_neg (by omega), Array.getElem?_eq_none (by omega), Array.getElem?_eq_none (by simp; omega)]
theorem setCells_row (g : Nat) (t : TypeId) : ∀ (vs : List Value) (o : Nat) (w : World) (cur : Array Value), w.heap[g]? = some (.cells cur t (0, 0)) → w.setCells g o vs = w.setRow g (putAll cur o vs)
 | [], o, w, cur, h => (setRow_self w g cur t (0, 0) h).symm
 | v :: r, o, w, cur, h => by
  have h2 := heap_setCell_same w g o cur t v h
  rw [World.setCells, setCells_row g t r (o + 1) _ _ h2, setCell_eq_setRow w g o cur t (0, 0) v h, setRow_setRow, putAll]
theorem alloc_setRow (w : World) (cur cs : Array Value) (t : TypeId) : (w.alloc (.cells cur t)).setRow w.heap.size cs = w.alloc (.cells cs t) := by
 unfold World.alloc World.setRow
 congr 1
 apply Array.ext_getElem?
 intro j
 simp only [Array.getElem?_modify, Array.getElem?_push]
 by_cases h : w.heap.size = j
 ·
  simp [h]
 ·
  simp [h, show ¬ j = w.heap.size from fun e => h e.symm]
variable {P : Program}
theorem wpList_store_fresh {ops : Array Oper} {rest : List Oper} {op : Oper} {a : Act} (w : World) {Q : Exit → Act → World → Prop} (hgd : op.guard = none) (ty : TypeId) (x y : Operand) (ho : op.op = .store ty x y)
  (cur cells : Array Value) (t : TypeId) (hx : a.eval x = .pointer (some ⟨w.heap.size, 0, none⟩)) (hy : a.eval y = .agg cells) (hs : cur.size = cells.size)
  (hi : (P.info? ty).map (·.size) = some cells.size) (h1 : cells.all (·.oneCell') = true)
  (h : wpList P ops Q rest (a.put op.dst undef) (w.alloc (.cells cells t))) : wpList P ops Q (op :: rest) a (w.alloc (.cells cur t)) := by
 have hb := Blk.new w t cur
 refine wpList_store_mid hgd ty x y ho w.heap.size 0 cells hx hy (fun j hj => ?_) hi h1 ?_
 ·
  rw [show 0 + j = j by omega, hb.cell]
  exact ⟨by rw [Array.getElem?_eq_getElem (by omega)]; rfl, hb.frozen j⟩
 ·
  rw [setCells_row w.heap.size t cells.toList 0 _ cur hb, putAll_whole _ _ (by simpa using hs), alloc_setRow]
  simpa using h
theorem wpList_store_blk {ops : Array Oper} {rest : List Oper} {op : Oper} {a : Act} {w : World} {Q : Exit → Act → World → Prop} (hgd : op.guard = none) (ty : TypeId) (x y : Operand) (ho : op.op = .store ty x y)
  (g : Nat) (cur cells : Array Value) (t : TypeId) (hx : a.eval x = .pointer (some ⟨g, 0, none⟩)) (hy : a.eval y = .agg cells) (hb : Blk w g t cur) (hs : cur.size = cells.size)
  (hi : (P.info? ty).map (·.size) = some cells.size) (h1 : cells.all (·.oneCell') = true)
  (h : wpList P ops Q rest (a.put op.dst undef) (w.setRow g cells)) : wpList P ops Q (op :: rest) a w := by
 refine wpList_store_mid hgd ty x y ho g 0 cells hx hy (fun j hj => ?_) hi h1 ?_
 ·
  rw [show 0 + j = j by omega, hb.cell]
  exact ⟨by rw [Array.getElem?_eq_getElem (by omega)]; rfl, hb.frozen j⟩
 ·
  rw [setCells_row g t cells.toList 0 _ cur hb, putAll_whole _ _ (by simpa using hs)]
  simpa using h
theorem run_loadVar_at (w : World) (ad : Addr) (ty : TypeId) (cs : List Value) (d : TypeDesc) (hc : ∀ j u, cs[j]? = some u → w.cell? (ad.add j) = some u)
  (hu : P.underlying ty = some d) (hd : (match d with | .struct _ | .array _ _ => true | _ => false) = true) (hi : (P.info? ty).map (·.size) = some cs.length) :
  (loadVar ty ad).run P w = .ok (.agg cs.toArray) w := by
 have hl : (loadCells ad cs.length).run P w = .ok cs.toArray w := run_loadCells_list (P := P) w ad cs hc
 cases hq : P.info? ty with
 | none => simp [hq] at hi
 | some i =>
  have hs : i.size = cs.length := by simpa [hq] using hi
  have hagg : (isAgg ty).run P w = .ok true w := by
   unfold isAgg
   rw [Sem.run_bind, run_underlying hu w]
   cases d <;> simp_all
  simp [loadVar, Sem.run_bind, hagg, sizeOf, typeInfo, hq, hs, hl]
theorem wp_load_at {o : Oper} {a : Act} {w : World} {K : Act → World → Prop} {Q : Exit → Act → World → Prop} (ty : TypeId) (x : Operand) (ho : o.op = .load ty x)
  (ad : Addr) (hx : a.eval x = .pointer (some ad)) (cs : List Value) (d : TypeDesc) (hc : ∀ j u, cs[j]? = some u → w.cell? (ad.add j) = some u)
  (hu : P.underlying ty = some d) (hd : (match d with | .struct _ | .array _ _ => true | _ => false) = true) (hi : (P.info? ty).map (·.size) = some cs.length)
  (h : K (a.put o.dst (.agg cs.toArray)) w) : o.wp P a w K Q := by
 unfold Oper.wp execOp
 simp only [ho, hx, Instr.loadAt, Instr.sureAddr, Sem.run_bind, Sem.run_pure, Result.andThen_ok, run_loadVar_at w ad ty cs d hc hu hd hi]
 exact h
theorem wpList_load_at {ops : Array Oper} {rest : List Oper} {o : Oper} {a : Act} {w : World} {Q : Exit → Act → World → Prop} (hgd : o.guard = none) (ty : TypeId) (x : Operand) (ho : o.op = .load ty x)
  (ad : Addr) (hx : a.eval x = .pointer (some ad)) (cs : List Value) (d : TypeDesc) (hc : ∀ j u, cs[j]? = some u → w.cell? (ad.add j) = some u)
  (hu : P.underlying ty = some d) (hd : (match d with | .struct _ | .array _ _ => true | _ => false) = true) (hi : (P.info? ty).map (·.size) = some cs.length)
  (h : wpList P ops Q rest (a.put o.dst (.agg cs.toArray)) w) : wpList P ops Q (o :: rest) a w :=
 wpList_plain hgd fun _ hK => wp_load_at ty x ho ad hx cs d hc hu hd hi (hK _ _ h)
def recCells (rs : List Rc) : List Value := rs.flatMap Rc.cells
theorem recCells_len (rs : List Rc) : (recCells rs).length = 15 * rs.length := by
 induction rs with
 | nil => rfl
 | cons r rs ih => rw [recCells, List.flatMap_cons, List.length_append, Rc.len, ← recCells, ih, List.length_cons]; omega
theorem recCells_append (a b : List Rc) : recCells (a ++ b) = recCells a ++ recCells b := by simp [recCells]
theorem recCells_at : ∀ (rs : List Rc) (k : Nat) (r : Rc), rs[k]? = some r → ∀ j, j < 15 → (recCells rs)[15 * k + j]? = r.cells[j]?
 | [], k, r, h, j, _ => by simp at h
 | x :: rs, 0, r, h, j, hj => by
  simp at h
  subst h
  rw [recCells, List.flatMap_cons, List.getElem?_append_left (by rw [Rc.len]; omega)]
  simp
 | x :: rs, k + 1, r, h, j, hj => by
  rw [recCells, List.flatMap_cons, List.getElem?_append_right (by rw [Rc.len]; omega), Rc.len, show 15 * (k + 1) + j - 15 = 15 * k + j by omega]
  exact recCells_at rs k r (by simpa using h) j hj
theorem rec_at {w : World} {B n : Nat} {ad : Addr} {rs : List Rc} (h : Reads w B 15 (some ad) n (recCells rs)) {k : Nat} {r : Rc} (hk : rs[k]? = some r) : ∀ j u, r.cells[j]? = some u → w.cell? ((ad.add (k * 15)).add j) = some u := by
 intro j u hu
 have hj : j < 15 := by
  have := (List.getElem?_eq_some_iff.1 hu).1
  rwa [Rc.len] at this
 have hkl := (List.getElem?_eq_some_iff.1 hk).1
 have hl := h.1
 rw [recCells_len] at hl
 obtain ⟨ad2, e, _, hc⟩ := h.2 (by omega)
 injection e with e
 subst e
 rw [add_of_add, show k * 15 + j = 15 * k + j by omega]
 exact hc _ u ((recCells_at rs k r hk j hj).trans hu)
theorem Rc.ones (r : Rc) : r.arr.all (·.oneCell') = true := by
 rw [Array.all_eq_true_iff_forall_mem]
 intro v hv
 simp [Rc.arr, Rc.cells] at hv
 rcases hv with rfl | rfl | rfl | rfl | rfl | rfl | rfl | rfl | rfl | rfl | rfl | rfl | rfl | rfl | rfl <;> rfl
theorem recCells_ones (rs : List Rc) : ∀ u ∈ recCells rs, u.oneCell' = true := by
 intro u hu
 rw [recCells, List.mem_flatMap] at hu
 obtain ⟨r, _, hu⟩ := hu
 have := r.ones
 rw [Array.all_eq_true_iff_forall_mem] at this
 exact this u (by rw [Rc.arr]; simpa using hu)
theorem rec_size : (Tryz.prog.info? 41).map (·.size) = some 15 := by kernel_rfl
def Rc.none : Rc := ⟨0, 0, 0, false, 0, 0, 0, 0, ⟨#[]⟩, ⟨#[]⟩, ⟨#[]⟩, ⟨#[]⟩, ⟨#[]⟩, ⟨#[]⟩, ⟨#[]⟩⟩
theorem info_rec : (Tryz.prog.info? 41).map (fun i => (i.zero, i.size, i.bytes)) = some (some (.agg Rc.none.arr), 15, 176) := by kernel_rfl
theorem fold_rec (r : Rc) : Array.foldl (fun (cs : Array Value) (x : Value × Nat) => cs.setIfInBounds x.snd x.fst) #[.int .i64 0, .int .i64 0, .int .i64 0, .bool false, .int .i64 0, .int .i64 0, .int .i64 0, .int .i64 0, .string ⟨#[]⟩, .string ⟨#[]⟩, .string ⟨#[]⟩, .string ⟨#[]⟩, .string ⟨#[]⟩, .string ⟨#[]⟩, .string ⟨#[]⟩] (r.arr.zipIdx) 0 15 = r.arr := by kernel_rfl
theorem wpList_load_rec {ops : Array Oper} {rest : List Oper} {o : Oper} {a : Act} {w : World} {Q : Exit → Act → World → Prop} (hgd : o.guard = none) (x : Operand) (ho : o.op = .load 41 x)
  (ad : Addr) (hx : a.eval x = .pointer (some ad)) (r : Rc) (hc : ∀ j u, r.cells[j]? = some u → w.cell? (ad.add j) = some u)
  (h : wpList Tryz.prog ops Q rest (a.put o.dst (.agg r.arr)) w) : wpList Tryz.prog ops Q (o :: rest) a w :=
 wpList_load_at hgd 41 x ho ad hx r.cells _ hc Tryz.underlying41 rfl rec_size h
theorem blk_rec {w : World} {g : Nat} {t : TypeId} {r : Rc} (h : Blk w g t r.arr) : ∀ j u, r.cells[j]? = some u → w.cell? ((⟨g, 0, none⟩ : Addr).add j) = some u := by
 intro j u hu
 rw [show ((⟨g, 0, none⟩ : Addr).add j) = ⟨g, j, none⟩ by unfold Addr.add; split <;> simp_all, h.cell j]
 simpa [Rc.arr] using hu
end
section
open Go.RowKit
theorem rec_next {w : World} {B : Nat} {T : TypeId} {v : Value} {l l' : List Rc} {r : Rc} (h : w.ownsRow B T 15 v (l.length + 1) (recCells l ++ r.cells)) (e : l' = l ++ [r]) : w.ownsRow B T 15 v l'.length (recCells l') := by
 subst e
 rw [recCells_append, List.length_append]
 simpa [recCells] using h
theorem take_filter {rs : List Rc} {p : Rc → Bool} {k : Nat} {r : Rc} (h : rs[k]? = some r) : (rs.take (k + 1)).filter p = (rs.take k).filter p ++ (if p r then [r] else []) := by
 rw [List.take_add_one, h, List.filter_append]
 cases hp : p r <;> simp [hp]
theorem keep_walk (F : FuncId) (caps : Array Value) (p : Rc → Bool) (w : World) (hF : Tells F caps w p) (rs : List Rc) (A : Option Addr) (c : Nat) (hr : Reads w w.heap.size 15 A rs.length (recCells rs)) (hc : rs.length ≤ c) (hm : rs.length ≤ 1000000) :
  Calls Tryz.prog 78 #[.slice A rs.length c, .func (.func F) #[] caps] w fun e w' => ∃ v, e = .returned v ∧ w'.ownsRow w.heap.size 41 15 v (rs.filter p).length (recCells (rs.filter p)) ∧ Below w.heap.size w w' := by
 have hcf := hF.1
 obtain ⟨i0, hi, hz0, hz1, hz2⟩ := info_parts info_rec
 go_enter Tryz.func78, Tryz.ntmps78
 go_wp2_with fail
 go_loopw [5, 10] (fun ov nv wr => ∃ k : Nat, k ≤ rs.length ∧ nv = .int .i64 k ∧ wr.ownsRow w.heap.size 41 15 ov ((rs.take k).filter p).length (recCells ((rs.take k).filter p)) ∧ Below w.heap.size w wr) (fun _ nv _ => rs.length - (intOf nv).toNat)
 case atStart => exact ⟨0, by omega, rfl, World.ownsRow_nil _ _ _ _, Below.refl _ _⟩
 case round =>
  obtain ⟨k, hk, rfl, hown, hbl⟩ := hrel
  by_cases hlt : k < rs.length
  ·
   obtain ⟨ad, rfl⟩ : ∃ ad, A = some ad := by obtain ⟨ad, h, _⟩ := hr.2 (by omega); exact ⟨ad, h⟩
   obtain ⟨r, hrk⟩ : ∃ r, rs[k]? = some r := ⟨rs[k], List.getElem?_eq_getElem hlt⟩
   have hra := Lib.hid (rec_at (hr.below hbl) hrk)
   have hb1 : Below w.heap.size w (wr.alloc (.cells r.arr 41)) := hbl.alloc hbl.size _
   have cF := Lib.hid (hF.2 r _ hb1)
   have hsz := hbl.size
   go_wp2_with (first
    | (refine wpList_load_rec rfl _ rfl (ad.add (k * 15)) rfl r hra.out ?_)
    | (refine wpList_store_fresh wr rfl 41 _ _ rfl _ r.arr _ rfl rfl rfl rec_size r.ones ?_)
    | (refine wpList_load_rec rfl _ rfl ⟨wr.heap.size, 0, none⟩ rfl r (blk_rec (Blk.new _ _ _)) ?_))
   refine cF.out.mono ?_
   rintro _ w1 ⟨rfl, hbn⟩
   have hblk := (Blk.new wr 41 r.arr).below hbn (by simp)
   have hown1 := ownsRow_below (World.ownsRow.alloc (w := wr) hown (.cells r.arr 41)) hbn
   have hb2 : Below w.heap.size w w1 := below_next hb1 hbn
   have htf := Lib.hid (take_filter (p := p) hrk)
   obtain ⟨l, hl⟩ : ∃ l, (rs.take k).filter p = l := ⟨_, rfl⟩
   have hll : l.length ≤ 1000000 := by
    rw [← hl]
    have := List.length_filter_le p (rs.take k)
    rw [List.length_take] at this
    omega
   rw [hl] at hown1
   have HL := Lib.hid hl
   clear hl hown hb1 hbn cF hra hbl
   cases hp : p r
   ·
    go_wp2_with fail
    rw [hp, HL.out] at htf
    exact ⟨⟨k + 1, by omega, by go_num, by rw [htf.out]; simpa using hown1, hb2⟩, by simp [intOf]; omega⟩
   ·
    rw [hp, HL.out] at htf
    have h15 := r.sz
    have hrd := reads_new w1 41 r.cells
    go_wp2_with (first
     | (refine wpList_load_rec rfl _ rfl ⟨wr.heap.size, 0, none⟩ rfl r (blk_rec hblk) ?_)
     | (at_builtin; rw [fold_rec]; refine wpList_append_any (w1.alloc (.cells r.arr 41)) rfl (.tmp 17) (.tmp 19) 29 rfl w.heap.size 41 i0 (.agg Rc.none.arr) 15 176 Tryz.underlying29 hi hz0 hz1 hz2 rfl (by decide) u5 l.length (recCells l) rfl (hown1.alloc _) (w1.heap.size + 1) _ 1 1 r.cells rfl hrd (fun u hu => recCells_ones [r] u (by simpa [recCells] using hu)) (by unfold maxLen; omega) (by omega) (by have := hb2.size; simp; omega) ?_; intro v' w2 hown2 hg2 hat2))
    have hb3 : Below w.heap.size w w2 := (hb2.alloc hb2.size _).grown hg2 (by have := hb2.size; simp; omega) (fun g hg => by have := hown1.lt g hg; omega)
    have hown3 := rec_next (l' := l ++ [r]) hown2 rfl
    exact ⟨⟨k + 1, by omega, by go_num, by rw [htf.out]; simpa using hown3, hb3⟩, by simp [intOf]; omega⟩
  ·
   obtain rfl : k = rs.length := by omega
   rw [List.take_length] at hown
   go_wp2_with fail
   go_ret
   exact ⟨_, rfl, hown, hbl⟩
end
section
open Go.RowKit
def mostI (k : Int) : Int := if k = 1 then 6 else if k = 2 then 6 else if k = 3 then 6 else if k = 4 then 6 else if k = 5 then 12 else if k = 6 then 12 else 0
def lifeI (k : Int) : Int := if k = 1 then 60 else if k = 2 then 900 else if k = 3 then 120 else if k = 4 then 40 else if k = 5 then 300 else if k = 6 then 600 else 0
def OwnRec (rs : List Rc) (w : World) (e : Ending) (w' : World) : Prop := ∃ v, e = .returned v ∧ w'.ownsRow w.heap.size 41 15 v rs.length (recCells rs) ∧ Below w.heap.size w w'
def RecsAt (w : World) (A : Option Addr) (c : Nat) (rs : List Rc) : Prop := rs.length ≤ c ∧ rs.length ≤ 1000000 ∧ Reads w w.heap.size 15 A rs.length (recCells rs)
theorem RecsAt.below {w w' : World} {A : Option Addr} {c : Nat} {rs : List Rc} (h : RecsAt w A c rs) (hb : Below w.heap.size w w') : RecsAt w' A c rs := ⟨h.1, h.2.1, (h.2.2.below hb).more hb.size⟩
theorem RecsAt.own {w : World} {base : Nat} {T : TypeId} {v : Value} {rs : List Rc} (h : w.ownsRow base T 15 v rs.length (recCells rs)) (hm : rs.length ≤ 1000000) : ∃ A c, v = .slice A rs.length c ∧ RecsAt w A c rs := by
 obtain ⟨A, c, rfl, hc, hr⟩ := own_reads h (Nat.le_refl _)
 exact ⟨A, c, rfl, hc, hm, hr⟩
def liveL (now : Int) (rs : List Rc) : List Rc := rs.filter fun r => decide (now < r.till)
def revokeL (fam : Int) (rs : List Rc) : List Rc := rs.filter fun r => (r.kind != 5 && r.kind != 6) || r.fam != fam
theorem OwnRec.base {rs : List Rc} {w w1 : World} {e : Ending} {w' : World} (hb : Below w.heap.size w w1) (h : OwnRec rs w1 e w') : OwnRec rs w e w' := by
 obtain ⟨v, h1, h2, h3⟩ := h
 exact ⟨v, h1, h2.mono hb.size, below_next hb h3⟩
theorem live_walk (rs : List Rc) (A : Option Addr) (c : Nat) (now : Int) (w : World) (hr : RecsAt w A c rs) :
  Calls Tryz.prog 103 #[.slice A rs.length c, .int .i64 now] w (OwnRec (liveL now rs) w) := by
 have hmf : ∀ (fn : Fn) (first cap : Array Value) (w : World), (Instr.makeFunc fn first cap).run Tryz.prog w = .ok (.func fn first cap) w := fun _ _ _ _ => rfl
 have hbx := (Below.refl w.heap.size w).alloc (Nat.le_refl _) (.cells #[.int .i64 now] 3)
 have hr2 := hr.below hbx
 have ck := Lib.hid (keep_walk _ _ _ (w.alloc (.cells #[.int .i64 now] 3)) (live1_walk w.heap.size now _ ((Blk.new w 3 #[.int .i64 now]).cell 0)) rs A c hr2.2.2 hr2.1 hr2.2.1)
 go_enter Tryz.func103, Tryz.ntmps103
 go_wp2_with fail
 refine ck.out.mono ?_
 rintro _ w1 ⟨v, rfl, hown, hb⟩
 go_wp2_with fail
 go_ret
 exact ⟨v, rfl, hown.mono hbx.size, below_next hbx hb⟩
theorem revoke_walk (rs : List Rc) (A : Option Addr) (c : Nat) (fam : Int) (w : World) (hr : RecsAt w A c rs) :
  Calls Tryz.prog 49 #[.slice A rs.length c, .int .i64 fam] w (OwnRec (revokeL fam rs) w) := by
 have hmf : ∀ (fn : Fn) (first cap : Array Value) (w : World), (Instr.makeFunc fn first cap).run Tryz.prog w = .ok (.func fn first cap) w := fun _ _ _ _ => rfl
 have hbx := (Below.refl w.heap.size w).alloc (Nat.le_refl _) (.cells #[.int .i64 fam] 3)
 have hr2 := hr.below hbx
 have ck := Lib.hid (keep_walk _ _ _ (w.alloc (.cells #[.int .i64 fam] 3)) (revoke1_walk w.heap.size fam _ ((Blk.new w 3 #[.int .i64 fam]).cell 0)) rs A c hr2.2.2 hr2.1 hr2.2.1)
 go_enter Tryz.func49, Tryz.ntmps49
 go_wp2_with fail
 refine ck.out.mono ?_
 rintro _ w1 ⟨v, rfl, hown, hb⟩
 go_wp2_with fail
 go_ret
 exact ⟨v, rfl, hown.mono hbx.size, below_next hbx hb⟩
end
section
open Go.RowKit
def kindL (kind : Int) (rs : List Rc) : List Rc := rs.filter fun r => r.kind == kind
def roomI (rs : List Rc) (now kind : Int) : Int := max (mostI kind - ((kindL kind (liveL now rs)).length : Int)) 0
theorem mostI_le (k : Int) : 0 ≤ mostI k ∧ mostI k ≤ 12 := by
 unfold mostI
 repeat (split; · omega)
 omega
theorem liveL_le (now : Int) (rs : List Rc) : (liveL now rs).length ≤ rs.length := List.length_filter_le _ _
theorem kindL_le (k : Int) (rs : List Rc) : (kindL k rs).length ≤ rs.length := List.length_filter_le _ _
end
section
open Go.RowKit
def idxI (p : Rc → Bool) (rs : List Rc) : Int := match rs.findIdx? p with
 | some i => i
 | none => -1
theorem idx_some {p : Rc → Bool} {rs : List Rc} {k : Nat} {r : Rc} (h : ∀ j, j < k → ∀ r, rs[j]? = some r → p r = false) (hk : rs[k]? = some r) (hp : p r = true) : rs.findIdx? p = some k := by
 obtain ⟨hlt, e⟩ := List.getElem?_eq_some_iff.1 hk
 rw [List.findIdx?_eq_some_iff_getElem]
 refine ⟨hlt, by rw [e]; exact hp, fun j hj => ?_⟩
 rw [h j hj _ (List.getElem?_eq_getElem (by omega))]
 simp
theorem idx_none {p : Rc → Bool} {rs : List Rc} (h : ∀ j, j < rs.length → ∀ r, rs[j]? = some r → p r = false) : rs.findIdx? p = none := by
 rw [List.findIdx?_eq_none_iff]
 intro x hx
 obtain ⟨j, hj, e⟩ := List.getElem_of_mem hx
 exact h j hj x (by rw [List.getElem?_eq_getElem hj, e])
theorem index_walk (F : FuncId) (caps : Array Value) (p : Rc → Bool) (w : World) (hF : Tells F caps w p) (rs : List Rc) (A : Option Addr) (c : Nat) (hr : RecsAt w A c rs) :
  Calls Tryz.prog 119 #[.slice A rs.length c, .func (.func F) #[] caps] w fun e w' => e = .returned (.int .i64 (idxI p rs)) ∧ Below w.heap.size w w' := by
 have hcf := hF.1
 obtain ⟨hc, hm, hr⟩ := hr
 go_enter Tryz.func119, Tryz.ntmps119
 go_wp2_with fail
 go_loopw [8] (fun nv wr => ∃ k : Nat, k ≤ rs.length ∧ nv = .int .i64 k ∧ Hid (∀ j, j < k → ∀ r, rs[j]? = some r → p r = false) ∧ Below w.heap.size w wr) (fun nv _ => rs.length - (intOf nv).toNat)
 case atStart => exact ⟨0, by omega, rfl, fun j hj => by omega, Below.refl _ _⟩
 case round =>
  obtain ⟨k, hk, rfl, hno, hbl⟩ := hrel
  by_cases hlt : k < rs.length
  ·
   obtain ⟨ad, rfl⟩ : ∃ ad, A = some ad := by obtain ⟨ad, h, _⟩ := hr.2 (by omega); exact ⟨ad, h⟩
   obtain ⟨r, hrk⟩ : ∃ r, rs[k]? = some r := ⟨rs[k], List.getElem?_eq_getElem hlt⟩
   have hra := Lib.hid (rec_at (hr.below hbl) hrk)
   have cF := Lib.hid (hF.2 r _ hbl)
   go_wp2_with (refine wpList_load_rec rfl _ rfl (ad.add (k * 15)) rfl r hra.out ?_)
   refine cF.out.mono ?_
   rintro _ w1 ⟨rfl, hbn⟩
   have hb2 : Below w.heap.size w w1 := below_next hbl hbn
   cases hp : p r
   ·
    have HN : Hid (∀ j, j < k + 1 → ∀ r, rs[j]? = some r → p r = false) := by
     show ∀ j, j < k + 1 → _
     intro j hj r' hr'
     rcases Nat.lt_or_ge j k with h | h
     ·
      exact hno.out j h r' hr'
     ·
      rw [show j = k by omega, hrk] at hr'
      injection hr' with e
      rw [← e]; exact hp
    go_wp2_with fail
    exact ⟨⟨k + 1, by omega, by go_num, HN, hb2⟩, by simp [intOf]; omega⟩
   ·
    have hv : Hid (idxI p rs = (k : Int)) := by show _ = _; rw [idxI, idx_some hno.out hrk hp]
    go_wp2_with fail
    go_ret
    exact ⟨by rw [hv.out]; rfl, hb2⟩
  ·
   obtain rfl : k = rs.length := by omega
   have hv : Hid (idxI p rs = -1) := by show _ = _; rw [idxI, idx_none hno.out]
   go_wp2_with fail
   go_ret
   exact ⟨by rw [hv.out]; rfl, hbl⟩
theorem own_empty15 (w : World) (e : TypeId) : (w.alloc (.cells #[] e)).ownsRow w.heap.size e 15 (.slice (some ⟨w.heap.size, 0, none⟩) 0 0) 0 [] :=
 World.ownsRow_made w #[] 0 (Nat.le_refl _) (by decide) rfl
end
section
open Go.RowKit
def isAt (kind key : Int) (r : Rc) : Bool := r.kind == kind && r.key == key
theorem at_walk (rs : List Rc) (A : Option Addr) (c : Nat) (kind key : Int) (w : World) (hr : RecsAt w A c rs) :
  Calls Tryz.prog 104 #[.slice A rs.length c, .int .i64 kind, .int .i64 key] w fun e w' => e = .returned (.int .i64 (idxI (isAt kind key) rs)) ∧ Below w.heap.size w w' := by
 have hmf : ∀ (fn : Fn) (first cap : Array Value) (w : World), (Instr.makeFunc fn first cap).run Tryz.prog w = .ok (.func fn first cap) w := fun _ _ _ _ => rfl
 have hb1 := (Below.refl w.heap.size w).alloc (Nat.le_refl _) (.cells #[.int .i64 kind] 3)
 have hb := hb1.alloc hb1.size (.cells #[.int .i64 key] 3)
 have h1 := ((Blk.new w 3 #[.int .i64 kind]).alloc (.cells #[.int .i64 key] 3)).cell 0
 have h2 : ((w.alloc (.cells #[.int .i64 kind] 3)).alloc (.cells #[.int .i64 key] 3)).cell? ⟨w.heap.size + 1, 0, none⟩ = some (.int .i64 key) := by simp
 have ci := Lib.hid (index_walk _ _ _ ((w.alloc (.cells #[.int .i64 kind] 3)).alloc (.cells #[.int .i64 key] 3)) (at1_walk _ _ kind key _ h1 h2) rs A c (hr.below hb))
 clear h1 h2
 go_enter Tryz.func104, Tryz.ntmps104
 go_wp2_with fail
 refine ci.out.mono ?_
 rintro _ w1 ⟨rfl, hbn⟩
 go_wp2_with fail
 go_ret
 exact ⟨rfl, below_next hb hbn⟩
def putC (rs : List Rc) (now : Int) (r : Rc) : Int :=
 if mostI r.kind = 0 then 2 else if (liveL now rs).any (fun x => x.key == r.key) then 6 else if roomI (liveL now rs) now r.kind = 0 then 16 else 0
def putL (rs : List Rc) (now : Int) (r : Rc) : List Rc := if putC rs now r = 0 then liveL now rs ++ [r] else rs
end
section
open Go.RowKit
theorem results_rec_tmp {fn : Func} {p u : Tmp} (h : fn.results = #[.cell p 41, .tmp u]) (tmps : Array Value) (w : World) (g : Nat) (t : TypeId) (r : Rc)
  (hp : tmps.getD p undef = .pointer (some ⟨g, 0, none⟩)) (hb : Blk w g t r.arr) : (results fn tmps).run Tryz.prog w = .ok (.tuple #[.agg r.arr, tmps.getD u undef]) w := by
 rw [results_cell_tmp h, hp]
 simp [asAddr, run_loadVar_row w g t 41 r.arr (0, 0) _ hb Tryz.underlying41 rfl rec_size]
def findO (rs : List Rc) (now kind key : Int) : Option Rc := match (liveL now rs).findIdx? (isAt kind key) with
 | some i => (liveL now rs)[i]?
 | none => none
theorem Blk.setRow {w : World} {g : Nat} {t : TypeId} {cs cs' : Array Value} (h : Blk w g t cs) : Blk (w.setRow g cs') g t cs' := setRow_heap w g _ _ t _ h
theorem find_walk (rs : List Rc) (A : Option Addr) (c : Nat) (now kind key : Int) (w : World) (hr : RecsAt w A c rs) :
  Calls Tryz.prog 73 #[.slice A rs.length c, .int .i64 now, .int .i64 kind, .int .i64 key] w fun e w' => e = .returned (.tuple #[.agg ((findO rs now kind key).getD Rc.none).arr, .bool (findO rs now kind key).isSome]) ∧ Below w.heap.size w w' := by
 have hb := (Below.refl w.heap.size w).alloc (Nat.le_refl _) (.cells Rc.none.arr 41)
 have hblk := Blk.new w 41 Rc.none.arr
 have hl1 := liveL_le now rs
 have hm := hr.2.1
 have cl := Lib.hid (live_walk rs A c now _ (hr.below hb))
 clear hr
 go_enter Tryz.func73, Tryz.ntmps73
 go_wp2_with fail
 refine cl.out.mono ?_
 rintro _ w1 ⟨v, rfl, hown, hb1⟩
 obtain ⟨A1, c1, rfl, hr1⟩ := RecsAt.own hown (by omega)
 have hblk1 := hblk.below hb1 (by simp)
 replace hb := below_next hb hb1
 have ca := Lib.hid (at_walk _ A1 c1 kind key w1 hr1)
 clear hown hb1 hblk cl
 cases hi : (liveL now rs).findIdx? (isAt kind key) with
 | none =>
  rw [show idxI (isAt kind key) (liveL now rs) = -1 by rw [idxI, hi]] at ca
  have hv : Hid (findO rs now kind key = none) := by show _ = _; rw [findO, hi]
  clear hi
  go_wp2_with fail
  refine ca.out.mono ?_
  rintro _ w2 ⟨rfl, hbn⟩
  have hblk2 := hblk1.below hbn (by have := hblk1.lt; omega)
  replace hb := below_next hb hbn
  clear hbn hblk1 ca hr1
  go_wp2_with (refine wpList_store_blk rfl 41 _ _ rfl w.heap.size _ Rc.none.arr _ rfl rfl hblk2 rfl rec_size Rc.none.ones ?_)
  refine bodyPost_ret (results_rec_tmp Tryz.results73 _ _ w.heap.size _ Rc.none rfl hblk2.setRow) rfl ⟨?_, below_setRow hb (Nat.le_refl _) _⟩
  rw [hv.out]
  rfl
 | some i =>
  have hil : i < (liveL now rs).length := by
   rw [List.findIdx?_eq_some_iff_getElem] at hi
   exact hi.1
  rw [show idxI (isAt kind key) (liveL now rs) = (i : Int) by rw [idxI, hi]] at ca
  obtain ⟨r, hrk⟩ : ∃ r, (liveL now rs)[i]? = some r := ⟨(liveL now rs)[i], List.getElem?_eq_getElem hil⟩
  have hv : Hid (findO rs now kind key = some r) := by show _ = _; rw [findO, hi]; exact hrk
  obtain ⟨ad, rfl⟩ : ∃ ad, A1 = some ad := by obtain ⟨ad, h, _⟩ := hr1.2.2.2 (by omega); exact ⟨ad, h⟩
  have hi0 : ¬ (i : Int) < 0 := by omega
  clear hi
  go_wp2_with fail
  refine ca.out.mono ?_
  rintro _ w2 ⟨rfl, hbn⟩
  have hblk2 := hblk1.below hbn (by have := hblk1.lt; omega)
  have hra := Lib.hid (rec_at (hr1.below hbn).2.2 hrk)
  replace hb := below_next hb hbn
  clear hbn hblk1 ca hr1
  go_wp2_with (first
   | (refine wpList_load_rec rfl _ rfl (ad.add (i * 15)) rfl r hra.out ?_)
   | (refine wpList_store_blk rfl 41 _ _ rfl w.heap.size _ r.arr _ rfl rfl hblk2 rfl rec_size r.ones ?_))
  refine bodyPost_ret (results_rec_tmp Tryz.results73 _ _ w.heap.size _ r rfl hblk2.setRow) rfl ⟨?_, below_setRow hb (Nat.le_refl _) _⟩
  rw [hv.out]
  rfl
end
section
open Go.RowKit
theorem tl_inj {a b : ByteArray} (h : a.toList = b.toList) : a = b := by
 rw [ByteArray.toList_eq, ByteArray.toList_eq] at h
 exact str_eq h
theorem rc_ext {r s : Rc} (h1 : r.kind = s.kind) (h2 : r.key = s.key) (h3 : r.till = s.till) (h4 : r.used = s.used) (h5 : r.client = s.client) (h6 : r.user = s.user) (h7 : r.sess = s.sess) (h8 : r.fam = s.fam)
  (g1 : r.s1 = s.s1) (g2 : r.s2 = s.s2) (g3 : r.s3 = s.s3) (g4 : r.s4 = s.s4) (g5 : r.s5 = s.s5) (g6 : r.s6 = s.s6) (g7 : r.s7 = s.s7) : r = s := by
 cases r
 cases s
 simp only at h1 h2 h3 h4 h5 h6 h7 h8 g1 g2 g3 g4 g5 g6 g7
 subst h1 h2 h3 h4 h5 h6 h7 h8 g1 g2 g3 g4 g5 g6 g7
 rfl
set_option maxRecDepth 100000 in
theorem rec_eq (r s : Rc) (W : World) : (Op.equalIn 10000 41 (.agg r.arr) (.agg s.arr)).run Tryz.prog W = .ok (decide (r = s)) W := by
 have hs1 : Tryz.prog.stoodInHeld 41 = false := by kernel_rfl
 have hs2 : Tryz.prog.stoodInHeld 39 = false := by kernel_rfl
 have hf1 : Tryz.prog.underlying 41 = some (.struct (Tryz.prog.fieldsOf 41)) := by kernel_rfl
 have hf2 : Tryz.prog.underlying 39 = some (.struct (Tryz.prog.fieldsOf 39)) := by kernel_rfl
 rw [run_equalIn_struct W 9999 _ _ _ hf1 hs1]
 rw [show (Tryz.prog.fieldsOf 41).toList = _ from (by unfold Program.fieldsOf; rw [Tryz.underlying41])]
 simp [go_sem, Rc.arr, Rc.cells, Tryz.underlying3, Tryz.underlying4, Tryz.underlying9, Tryz.underlying39, hs2]
 by_cases h : r = s
 ·
  subst h
  simp
 ·
  rw [decide_eq_false h]
  by_cases h0 : r.kind = s.kind
  case neg => rw [if_neg h0]
  rw [if_pos h0]
  by_cases h1 : r.key = s.key
  case neg => rw [if_neg h1]
  rw [if_pos h1]
  by_cases h2 : r.till = s.till
  case neg => rw [if_neg h2]
  rw [if_pos h2]
  by_cases h3 : r.used = s.used
  case neg => rw [if_neg h3]
  rw [if_pos h3]
  by_cases h4 : r.client = s.client
  case neg => rw [if_neg h4]
  rw [if_pos h4]
  by_cases h5 : r.user = s.user
  case neg => rw [if_neg h5]
  rw [if_pos h5]
  by_cases h6 : r.sess = s.sess
  case neg => rw [if_neg h6]
  rw [if_pos h6]
  by_cases h7 : r.fam = s.fam
  case neg => rw [if_neg h7]
  rw [if_pos h7]
  by_cases g0 : r.s1.toList = s.s1.toList
  case neg => rw [if_neg g0]
  rw [if_pos g0]
  by_cases g1 : r.s2.toList = s.s2.toList
  case neg => rw [if_neg g1]
  rw [if_pos g1]
  by_cases g2 : r.s3.toList = s.s3.toList
  case neg => rw [if_neg g2]
  rw [if_pos g2]
  by_cases g3 : r.s4.toList = s.s4.toList
  case neg => rw [if_neg g3]
  rw [if_pos g3]
  by_cases g4 : r.s5.toList = s.s5.toList
  case neg => rw [if_neg g4]
  rw [if_pos g4]
  by_cases g5 : r.s6.toList = s.s6.toList
  case neg => rw [if_neg g5]
  rw [if_pos g5]
  by_cases g6 : r.s7.toList = s.s7.toList
  case neg => rw [if_neg g6]
  rw [if_pos g6]
  exact absurd (rc_ext h0 h1 h2 h3 h4 h5 h6 h7 (tl_inj g0) (tl_inj g1) (tl_inj g2) (tl_inj g3) (tl_inj g4) (tl_inj g5) (tl_inj g6)) h
theorem neq_rec (r s : Rc) (W : World) : (binOp .neq 41 (.agg r.arr) (.agg s.arr)).run Tryz.prog W = .ok (.bool (!decide (r = s))) W := by
 rw [run_neq_struct, rec_eq]
 rfl
theorem yieldsIf_load_rec {ops : Array Oper} {S : World → Prop} {op : Oper} {a : Act} (hw : Region.wanted op (yielded ops a.tmps) = true) (x : Operand) (ho : op.op = .load 41 x)
  (ad : Addr) (hx : a.eval x = .pointer (some ad)) (r : Rc) (hS : ∀ w, S w → ∀ j u, r.cells[j]? = some u → w.cell? (ad.add j) = some u) : YieldsIf Tryz.prog ops S op (.agg r.arr) a :=
 .inl ⟨hw, fun w hw' => by
  unfold execOp
  simp only [ho, hx, Instr.loadAt, Instr.sureAddr, Sem.run_bind, Sem.run_pure, Result.andThen_ok, run_loadVar_at w ad 41 r.cells _ (hS w hw') Tryz.underlying41 rfl rec_size]
  rfl⟩
theorem same_walk (rs ss : List Rc) (A B : Option Addr) (c d : Nat) (w : World) (hr : RecsAt w A c rs) (hs : RecsAt w B d ss) :
  Calls Tryz.prog 47 #[.slice A rs.length c, .slice B ss.length d] w fun e w' => e = .returned (.bool (decide (rs = ss))) ∧ ∃ n, w' = w.drewN n := by
 by_cases hl : rs.length = ss.length
 ·
  have hne : ((rs.length : Int) == (ss.length : Int)) = true := by rw [hl]; simp
  have HL := Lib.hid hl
  clear hl
  have hm := hr.2.1
  go_enter Tryz.func47, Tryz.ntmps47
  go_wp2_with fail
  go_loopw [5] (fun nv wr => ∃ k : Nat, k ≤ rs.length ∧ nv = .int .i64 k ∧ Hid (rs.take k = ss.take k) ∧ ∃ n, wr = w.drewN n) (fun nv _ => rs.length - (intOf nv).toNat)
  case atStart => exact ⟨0, by omega, rfl, rfl, 0, rfl⟩
  case round =>
   obtain ⟨k, hk, rfl, heq, n, rfl⟩ := hrel
   by_cases hlt : k < rs.length
   ·
    obtain ⟨ad, rfl⟩ : ∃ ad, A = some ad := by obtain ⟨ad, h, _⟩ := hr.2.2.2 (by omega); exact ⟨ad, h⟩
    obtain ⟨bd, rfl⟩ : ∃ ad, B = some ad := by obtain ⟨ad, h, _⟩ := hs.2.2.2 (by rw [← HL.out]; omega); exact ⟨ad, h⟩
    obtain ⟨r, hrk⟩ : ∃ r, rs[k]? = some r := ⟨rs[k], List.getElem?_eq_getElem hlt⟩
    obtain ⟨s, hsk⟩ : ∃ r, ss[k]? = some r := ⟨ss[k], List.getElem?_eq_getElem (by rw [← HL.out]; exact hlt)⟩
    have hlt2 : k < ss.length := by rw [← HL.out]; exact hlt
    have hnq := neq_rec r s
    have hqg : Tryz.prog.eqGuardType Tryz.prog.depth 41 = false := by kernel_rfl
    have hS0 : (∀ j u, r.cells[j]? = some u → ((w.drewN n).drew).cell? ((ad.add (k * 15)).add j) = some u) ∧ (∀ j u, s.cells[j]? = some u → ((w.drewN n).drew).cell? ((bd.add (k * 15)).add j) = some u) := ⟨rec_at hr.2.2 hrk, rec_at hs.2.2 hsk⟩
    go_wp2_with fail
    refine wp_region_held_drew (S := fun W => (∀ j u, r.cells[j]? = some u → W.cell? ((ad.add (k * 15)).add j) = some u) ∧ (∀ j u, s.cells[j]? = some u → W.cell? ((bd.add (k * 15)).add j) = some u)) (by kernel_rfl) hS0 (fun hHeld => ?_)
    refine tkr 0 rfl ?_
    try simp only [nrm, Act.put]
    refine tkr 1 rfl ?_
    try simp only [nrm, Act.put]
    refine tkr 2 rfl ?_
    try simp only [nrm, Act.put]
    refine tk 3 rfl (v := _) (yieldsIf_load_rec (by rfl) _ rfl (ad.add (k * 15)) rfl r (fun w h => h.1)) ?_
    try simp only [nrm, Act.put]
    refine tkr 4 rfl ?_
    try simp only [nrm, Act.put]
    refine tkr 5 rfl ?_
    try simp only [nrm, Act.put]
    refine tkr 6 rfl ?_
    try simp only [nrm, Act.put]
    refine tk 7 rfl (v := _) (yieldsIf_load_rec (by rfl) _ rfl (bd.add (k * 15)) rfl s (fun w h => h.2)) ?_
    try simp only [nrm, Act.put]
    refine tkr 8 rfl ?_
    try simp only [nrm, Act.put]
    refine wpAnyH_done (by kernel_rfl) ?_ _
    by_cases hrs : r = s
    ·
     rw [show decide (r = s) = true from decide_eq_true hrs]
     have HN : Hid (rs.take (k + 1) = ss.take (k + 1)) := by
      show _ = _
      rw [List.take_add_one, List.take_add_one, heq.out, hrk, hsk, hrs]
     clear hnq hHeld hS0 hrs
     go_wp2_with fail
     exact ⟨⟨k + 1, by omega, by go_num, HN, n + 1, rfl⟩, by simp [intOf]; omega⟩
    ·
     rw [show decide (r = s) = false from decide_eq_false hrs]
     have hv : Hid (decide (rs = ss) = false) := by
      show _ = _
      apply decide_eq_false
      intro e
      rw [e, hsk] at hrk
      injection hrk with e2
      exact hrs e2.symm
     clear hnq hHeld hS0 hrs
     go_wp2_with fail
     go_ret
     exact ⟨by rw [hv.out]; rfl, n + 1, rfl⟩
   ·
    obtain rfl : k = rs.length := by omega
    have hv : Hid (decide (rs = ss) = true) := by
     show _ = _
     have := heq.out
     rw [List.take_length, HL.out, List.take_length] at this
     exact decide_eq_true this
    go_wp2_with fail
    go_ret
    exact ⟨by rw [hv.out]; rfl, n, rfl⟩
 ·
  have hne : ((rs.length : Int) == (ss.length : Int)) = false := by rw [beq_eq_false_iff_ne]; omega
  have hv : Hid (decide (rs = ss) = false) := by
   show _ = _
   apply decide_eq_false
   intro e
   exact hl (by rw [e])
  clear hl
  go_enter Tryz.func47, Tryz.ntmps47
  go_wp2_with fail
  go_ret
  exact ⟨by rw [hv.out]; rfl, 0, rfl⟩
end
section
open Go.RowKit
theorem own_only {w w' : World} {g base : Nat} {e : TypeId} {size n : Nat} {v : Value} {xs : List Value} (h : w.ownsRow base e size v n xs) (hg : w.grownBy w' (some g)) (hlt : g < base) : w'.ownsRow base e size v n xs := by
 refine h.kept hg (.inr (fun e => ?_))
 have := h.lt g e
 omega
theorem below_only {B g : Nat} {a w w' : World} (h : Below B a w) (hg : w.grownBy w' (some g)) (hB : B ≤ g) (hw : B ≤ w.heap.size) : Below B a w' :=
 h.grown hg hw (fun r e => by injection e with e; omega)
end
section
open Go.RowKit
def keepB (f : Int) (r : Rc) : Bool := (r.kind != 5 && r.kind != 6) || r.fam != f
theorem keep_no {f : Int} {r : Rc} (h : keepB f r = false) : ((r.kind == 5) || (r.kind == 6)) = true ∧ (r.fam == f) = true := by
 rw [keepB, bne, bne, bne] at h
 generalize (r.kind == 5) = a at *
 generalize (r.kind == 6) = b at *
 generalize (r.fam == f) = c at *
 revert h
 cases a <;> cases b <;> cases c <;> simp
theorem keep_yes {f : Int} {r : Rc} (h : keepB f r = true) : (r.kind == 5) = false ∧ (r.kind == 6) = false ∨ (r.fam == f) = false := by
 rw [keepB, bne, bne, bne] at h
 generalize (r.kind == 5) = a at *
 generalize (r.kind == 6) = b at *
 generalize (r.fam == f) = c at *
 revert h
 cases a <;> cases b <;> cases c <;> simp
theorem revokeL_eq (f : Int) (rs : List Rc) : revokeL f rs = rs.filter (keepB f) := rfl
theorem cell_field {w : World} {ad : Addr} {m : Nat} {r : Rc} (h : ∀ j u, r.cells[j]? = some u → w.cell? ((ad.add m).add j) = some u) : w.cell? (ad.add m) = some (.int .i64 r.kind) ∧ w.cell? ⟨(ad.add m).block, (ad.add m).off + 7, none⟩ = some (.int .i64 r.fam) ∧ w.cell? ⟨(ad.add m).block, (ad.add m).off + 1, none⟩ = some (.int .i64 r.key) := by
 refine ⟨?_, ?_, ?_⟩
 ·
  have := h 0 _ rfl
  simpa [Addr.add] using this
 ·
  have := h 7 _ rfl
  rw [show (ad.add m).add 7 = ⟨(ad.add m).block, (ad.add m).off + 7, none⟩ from rfl] at this
  exact this
 ·
  have := h 1 _ rfl
  rw [show (ad.add m).add 1 = ⟨(ad.add m).block, (ad.add m).off + 1, none⟩ from rfl] at this
  exact this
end
section
open Go.RowKit
theorem drop_at {rs : List Rc} {k : Nat} (hk : k ≤ rs.length) (j : Nat) : (recCells rs)[15 * k + j]? = (recCells (rs.drop k))[j]? := by
 conv => lhs; rw [← List.take_append_drop k rs, recCells_append]
 rw [List.getElem?_append_right (by rw [recCells_len]; simp; omega), recCells_len]
 congr 1
 simp
 omega
end
section
open Go.RowKit
theorem wp_store_blk {P : Program} {op : Oper} {a : Act} {w : World} {K : Act → World → Prop} {Q : Exit → Act → World → Prop} (ty : TypeId) (x y : Operand) (ho : op.op = .store ty x y)
  (g : Nat) (cur cells : Array Value) (t : TypeId) (hx : a.eval x = .pointer (some ⟨g, 0, none⟩)) (hy : a.eval y = .agg cells) (hb : Blk w g t cur) (hs : cur.size = cells.size)
  (hi : (P.info? ty).map (·.size) = some cells.size) (h1 : cells.all (·.oneCell') = true)
  (h : K (a.put op.dst undef) (w.setRow g cells)) : op.wp P a w K Q := by
 refine wp_store_mid ty x y ho g 0 cells hx hy (fun j hj => ?_) hi h1 ?_
 ·
  rw [show 0 + j = j by omega, hb.cell]
  exact ⟨by rw [Array.getElem?_eq_getElem (by omega)]; rfl, hb.frozen j⟩
 ·
  rw [setCells_row g t cells.toList 0 _ cur hb, putAll_whole _ _ (by simpa using hs)]
  simpa using h
theorem add_zero_at (g n : Nat) : (⟨g, 0, none⟩ : Addr).add n = ⟨g, n, none⟩ := by unfold Addr.add; split <;> simp_all
theorem Blk.setOther {w : World} {g g' : Nat} {t : TypeId} {cs : Array Value} (h : Blk w g t cs) (hne : g ≠ g') (cs' : Array Value) : Blk (w.setRow g' cs') g t cs := (setRow_other w g' g cs' hne).trans h
theorem results_t_rec_t {fn : Func} {q p u : Tmp} (h : fn.results = #[.tmp q, .cell p 41, .tmp u]) (tmps : Array Value) (w : World) (g : Nat) (t : TypeId) (r : Rc)
  (hp : tmps.getD p undef = .pointer (some ⟨g, 0, none⟩)) (hb : Blk w g t r.arr) : (results fn tmps).run Tryz.prog w = .ok (.tuple #[tmps.getD q undef, .agg r.arr, tmps.getD u undef]) w := by
 have hp' : tmps[p]?.getD undef = .pointer (some ⟨g, 0, none⟩) := by simpa using hp
 simp [results, h, hp', asAddr, run_loadVar_row w g t 41 r.arr (0, 0) _ hb Tryz.underlying41 rfl rec_size]
def idxO (rs : List Rc) (now kind key : Int) : Option Nat := (liveL now rs).findIdx? (isAt kind key)
def takeL (rs : List Rc) (now kind key : Int) : List Rc := match idxO rs now kind key with
 | some i => (liveL now rs).eraseIdx i
 | none => rs
end
section
open Go.RowKit
def changeI (rs : List Rc) (now : Int) (r : Rc) : Option Nat := (liveL now rs).findIdx? (isAt r.kind r.key)
def changeL (rs : List Rc) (now : Int) (r : Rc) : List Rc := match changeI rs now r with
 | some i => (liveL now rs).set i r
 | none => rs
theorem recCells_set {rs : List Rc} {i : Nat} (r : Rc) (hi : i < rs.length) : recCells (rs.set i r) = recCells (rs.take i) ++ r.cells ++ recCells (rs.drop (i + 1)) := by
 rw [List.set_eq_take_append_cons_drop, if_pos hi, recCells_append]
 simp [recCells]
theorem putAll_mid {cur : Array Value} {rs : List Rc} {i : Nat} (r : Rc) (hi : i < rs.length) (hs : rs.length * 15 ≤ cur.size) (hcur : cur.toList.take (rs.length * 15) = recCells rs) : (putAll cur (i * 15) r.cells).toList.take (rs.length * 15) = recCells (rs.set i r) := by
 have hl : r.cells.length = 15 := rfl
 have hxs : ∀ x, x < rs.length * 15 → cur[x]? = (recCells rs)[x]? := fun x hx => by
  rw [← hcur, List.getElem?_take, if_pos hx, Array.getElem?_toList]
 have e1 : recCells rs = recCells (rs.take i) ++ recCells (rs.drop i) := by rw [← recCells_append, List.take_append_drop]
 have h1 : (recCells (rs.take i)).length = i * 15 := by rw [recCells_len, List.length_take]; omega
 have h2 : (recCells (rs.take i) ++ r.cells).length = i * 15 + 15 := by rw [List.length_append, h1, hl]
 apply List.ext_getElem?
 intro j
 rw [recCells_set r hi, List.getElem?_take]
 by_cases hj : j < rs.length * 15
 ·
  rw [if_pos hj, Array.getElem?_toList, putAll_at _ _ _ (by rw [hl]; omega), hl]
  by_cases hj1 : j < i * 15
  ·
   rw [if_neg (by omega), List.getElem?_append_left (by omega), List.getElem?_append_left (by omega), hxs j hj, e1, List.getElem?_append_left (by omega)]
  ·
   by_cases hj2 : j < i * 15 + 15
   ·
    rw [if_pos (by omega), List.getElem?_append_left (by omega), List.getElem?_append_right (by omega), h1]
   ·
    rw [if_neg (by omega), List.getElem?_append_right (by omega), h2, hxs j hj]
    have := drop_at (rs := rs) (k := i + 1) (by omega) (j - (i * 15 + 15))
    rw [← this]
    congr 1
    omega
 ·
  rw [if_neg hj, List.getElem?_eq_none]
  rw [List.length_append, h2, recCells_len, List.length_drop]
  omega
theorem wpList_store_own {ops : Array Oper} {rest : List Oper} {op : Oper} {a : Act} {w : World} {Q : Exit → Act → World → Prop} (hgd : op.guard = none) (x y : Operand) (ho : op.op = .store 41 x y)
  (base g cap i : Nat) (rs : List Rc) (r : Rc) (hown : w.ownsRow base 41 15 (.slice (some ⟨g, 0, none⟩) rs.length cap) rs.length (recCells rs)) (hi : i < rs.length)
  (hx : a.eval x = .pointer (some ⟨g, i * 15, none⟩)) (hy : a.eval y = .agg r.arr)
  (h : ∀ w', w'.ownsRow base 41 15 (.slice (some ⟨g, 0, none⟩) (rs.set i r).length cap) (rs.set i r).length (recCells (rs.set i r)) → w.grownBy w' (some g) → w'.heap.size = w.heap.size → wpList Tryz.prog ops Q rest (a.put op.dst undef) w') : wpList Tryz.prog ops Q (op :: rest) a w := by
 obtain ⟨hxl, h0 | ⟨g', cap', cur, he, hbase, hg, hnc, hcm, hcs, hcur⟩⟩ := hown
 ·
  obtain ⟨h1, h2⟩ := h0
  cases h1
 injection he with h1 h2 h3
 injection h1 with h1
 injection h1 with h1 h4 h5
 subst h1 h3
 have hblk : Blk w g 41 cur := hg
 have hl : r.cells.length = 15 := rfl
 refine wpList_store_mid hgd 41 x y ho g (i * 15) r.arr hx hy (fun j hj => ?_) rec_size r.ones ?_
 ·
  rw [Rc.sz] at hj
  rw [hblk.cell]
  exact ⟨by rw [Array.getElem?_eq_getElem (by omega)]; rfl, hblk.frozen _⟩
 ·
  rw [setCells_row g _ r.arr.toList (i * 15) w cur hg]
  have hcl : r.arr.toList = r.cells := by simp [Rc.arr]
  rw [hcl]
  refine h _ ⟨?_, .inr ⟨g, cap, _, rfl, hbase, hblk.setRow, by simpa using hnc, hcm, by rw [putAll_size]; exact hcs, ?_⟩⟩ (setRow_only _ _ _) (by simp)
  ·
   rw [recCells_len]; omega
  ·
   rw [List.length_set]
   exact putAll_mid r hi (by omega) hcur
end
section
open Go.RowKit
theorem cell_till {w : World} {ad : Addr} {m : Nat} {r : Rc} (h : ∀ j u, r.cells[j]? = some u → w.cell? ((ad.add m).add j) = some u) : w.cell? ⟨(ad.add m).block, (ad.add m).off + 2, none⟩ = some (.int .i64 r.till) := by
 have := h 2 _ rfl
 rw [show (ad.add m).add 2 = ⟨(ad.add m).block, (ad.add m).off + 2, none⟩ from rfl] at this
 exact this
theorem rlive_walk (rs : List Rc) (A : Option Addr) (c : Nat) (now : Int) (w : World) (hr : RecsAt w A c rs) :
  Calls Tryz.prog 61 #[.slice A rs.length c, .int .i64 now] w (OwnRec (liveL now rs) w) := by
 obtain ⟨i0, hi, hz0, hz1, hz2⟩ := info_parts info_rec
 obtain ⟨hc, hm, hr⟩ := hr
 go_enter Tryz.func61, Tryz.ntmps61
 go_wp2_with fail
 go_loopw [5, 6] (fun ov nv wr => ∃ k : Nat, k ≤ rs.length ∧ nv = .int .i64 k ∧ wr.ownsRow w.heap.size 41 15 ov (liveL now (rs.take k)).length (recCells (liveL now (rs.take k))) ∧ Below w.heap.size w wr) (fun _ nv _ => rs.length - (intOf nv).toNat)
 case atStart => exact ⟨0, by omega, rfl, World.ownsRow_nil _ _ _ _, Below.refl _ _⟩
 case round =>
  obtain ⟨k, hk, rfl, hown, hbl⟩ := hrel
  by_cases hlt : k < rs.length
  ·
   obtain ⟨ad, rfl⟩ : ∃ ad, A = some ad := by obtain ⟨ad, h, _⟩ := hr.2 (by omega); exact ⟨ad, h⟩
   obtain ⟨r, hrk⟩ : ∃ r, rs[k]? = some r := ⟨rs[k], List.getElem?_eq_getElem hlt⟩
   have hra := rec_at (hr.below hbl) hrk
   have hkt := cell_till hra
   have HRA := Lib.hid hra
   have htf := Lib.hid (take_filter (p := fun x => decide (now < x.till)) hrk)
   obtain ⟨l, hl⟩ : ∃ l, liveL now (rs.take k) = l := ⟨_, rfl⟩
   have HL := Lib.hid hl
   have hll : l.length ≤ 1000000 := by
    rw [← hl]
    have := liveL_le now (rs.take k)
    rw [List.length_take] at this
    omega
   rw [hl] at hown
   obtain ⟨tl, htl⟩ : ∃ tl, r.till = tl := ⟨_, rfl⟩
   rw [htl] at hkt
   have HTL := Lib.hid htl
   have cd := Lib.hid (rdlive_walk now tl)
   have hsz := hbl.size
   clear hra hl htl
   cases hp : decide (now < tl)
   ·
    have htf2 : Hid (liveL now (rs.take (k + 1)) = l) := by
     show _ = _
     have := htf.out
     rw [HTL.out, hp] at this
     rw [liveL, this]
     rw [← HL.out, liveL]
     simp
    rw [hp] at cd
    clear hp
    go_wp2_with fail
    refine (cd.out _).mono ?_
    rintro _ w1 ⟨rfl, rfl⟩
    go_wp2_with fail
    exact ⟨⟨k + 1, by omega, by go_num, by rw [htf2.out]; exact hown, hbl⟩, by simp [intOf]; omega⟩
   ·
    have htf2 : Hid (liveL now (rs.take (k + 1)) = l ++ [r]) := by
     show _ = _
     have := htf.out
     rw [HTL.out, hp] at this
     rw [liveL, this]
     rw [← HL.out, liveL]
     simp
    rw [hp] at cd
    clear hp
    go_wp2_with fail
    refine (cd.out _).mono ?_
    rintro _ w1 ⟨rfl, rfl⟩
    have h15 := r.sz
    have hrd := reads_new wr 41 r.cells
    go_wp2_with (first
     | (refine wpList_load_rec rfl _ rfl (ad.add (k * 15)) rfl r HRA.out ?_)
     | (at_builtin; rw [fold_rec]; refine wpList_append_any (wr.alloc (.cells r.arr 41)) rfl (.tmp 20) (.tmp 25) 29 rfl w.heap.size 41 i0 (.agg Rc.none.arr) 15 176 Tryz.underlying29 hi hz0 hz1 hz2 rfl (by decide) u5 l.length (recCells l) rfl (hown.alloc _) (wr.heap.size + 1) _ 1 1 r.cells rfl hrd (fun u hu => recCells_ones [r] u (by simpa [recCells] using hu)) (by unfold maxLen; omega) (by omega) (by simp; omega) ?_; intro v' w2 hown2 hg2 hat2))
    have hb3 : Below w.heap.size w w2 := (hbl.alloc hsz _).grown hg2 (by simp; omega) (fun g hg => by have := hown.lt g hg; omega)
    exact ⟨⟨k + 1, by omega, by go_num, by rw [htf2.out]; exact rec_next hown2 rfl, hb3⟩, by simp [intOf]; omega⟩
  ·
   obtain rfl : k = rs.length := by omega
   rw [List.take_length] at hown
   go_wp2_with fail
   go_ret
   exact ⟨_, rfl, hown, hbl⟩
theorem rat_walk (rs : List Rc) (A : Option Addr) (c : Nat) (kind key : Int) (w : World) (hr : RecsAt w A c rs) :
  Calls Tryz.prog 62 #[.slice A rs.length c, .int .i64 kind, .int .i64 key] w fun e w' => e = .returned (.int .i64 (idxI (isAt kind key) rs)) ∧ w = w' := by
 obtain ⟨hc, hm, hr⟩ := hr
 go_enter Tryz.func62, Tryz.ntmps62
 go_wp2_with fail
 go_loopw [7] (fun nv wr => ∃ k : Nat, k ≤ rs.length ∧ nv = .int .i64 k ∧ Hid (∀ j, j < k → ∀ r, rs[j]? = some r → isAt kind key r = false) ∧ w = wr) (fun nv _ => rs.length - (intOf nv).toNat)
 case atStart => exact ⟨0, by omega, rfl, fun j hj => by omega, rfl⟩
 case round =>
  obtain ⟨k, hk, rfl, hno, rfl⟩ := hrel
  by_cases hlt : k < rs.length
  ·
   obtain ⟨ad, rfl⟩ : ∃ ad, A = some ad := by obtain ⟨ad, h, _⟩ := hr.2 (by omega); exact ⟨ad, h⟩
   obtain ⟨r, hrk⟩ : ∃ r, rs[k]? = some r := ⟨rs[k], List.getElem?_eq_getElem hlt⟩
   have HRK := Lib.hid hrk
   have hra := rec_at hr hrk
   obtain ⟨hk0, _, hk1⟩ := cell_field hra
   have hp : Hid (isAt kind key r = (r.kind == kind && r.key == key)) := rfl
   have HN : isAt kind key r = false → Hid (∀ j, j < k + 1 → ∀ r, rs[j]? = some r → isAt kind key r = false) := by
    intro hf
    show ∀ j, j < k + 1 → _
    intro j hj r' hr'
    rcases Nat.lt_or_ge j k with h | h
    ·
     exact hno.out j h r' hr'
    ·
     rw [show j = k by omega, hrk] at hr'
     injection hr' with e
     rw [← e]; exact hf
   have HNN := Lib.hid HN
   obtain ⟨kd, hkd⟩ : ∃ kd, r.kind = kd := ⟨_, rfl⟩
   obtain ⟨ky, hky⟩ : ∃ ky, r.key = ky := ⟨_, rfl⟩
   rw [hkd] at hk0 hp
   rw [hky] at hk1 hp
   clear hra hkd hky HN hrk
   cases e1 : kd == kind
   ·
    have hf : Hid (isAt kind key r = false) := by show _ = _; rw [hp.out, e1]; rfl
    go_wp2_with fail
    exact ⟨⟨k + 1, by omega, by go_num, HNN.out hf.out, trivial⟩, by simp [intOf]; omega⟩
   ·
    cases e2 : ky == key
    ·
     have hf : Hid (isAt kind key r = false) := by show _ = _; rw [hp.out, e1, e2]; rfl
     go_wp2_with fail
     exact ⟨⟨k + 1, by omega, by go_num, HNN.out hf.out, trivial⟩, by simp [intOf]; omega⟩
    ·
     have hv : Hid (idxI (isAt kind key) rs = (k : Int)) := by show _ = _; rw [idxI, idx_some hno.out HRK.out (by rw [hp.out, e1, e2]; rfl)]
     go_wp2_with fail
     go_ret
     exact ⟨by rw [hv.out]; rfl, rfl⟩
  ·
   obtain rfl : k = rs.length := by omega
   have hv : Hid (idxI (isAt kind key) rs = -1) := by show _ = _; rw [idxI, idx_none hno.out]
   go_wp2_with fail
   go_ret
   exact ⟨by rw [hv.out]; rfl, rfl⟩
end
section
open Go.RowKit
theorem rat_walkB (rs : List Rc) (A : Option Addr) (c : Nat) (kind key : Int) (w : World) (hr : RecsAt w A c rs) :
  Calls Tryz.prog 62 #[.slice A rs.length c, .int .i64 kind, .int .i64 key] w fun e w' => e = .returned (.int .i64 (idxI (isAt kind key) rs)) ∧ Below w.heap.size w w' := by
 refine (rat_walk rs A c kind key w hr).mono ?_
 rintro _ _ ⟨rfl, rfl⟩
 exact ⟨rfl, Below.refl _ _⟩
theorem rfind_walk (rs : List Rc) (A : Option Addr) (c : Nat) (now kind key : Int) (w : World) (hr : RecsAt w A c rs) :
  Calls Tryz.prog 26 #[.slice A rs.length c, .int .i64 now, .int .i64 kind, .int .i64 key] w fun e w' => e = .returned (.tuple #[.agg ((findO rs now kind key).getD Rc.none).arr, .bool (findO rs now kind key).isSome]) ∧ Below w.heap.size w w' := by
 have hb := (Below.refl w.heap.size w).alloc (Nat.le_refl _) (.cells Rc.none.arr 41)
 have hblk := Blk.new w 41 Rc.none.arr
 have hl1 := liveL_le now rs
 have hm := hr.2.1
 have cl := Lib.hid (rlive_walk rs A c now _ (hr.below hb))
 clear hr
 go_enter Tryz.func26, Tryz.ntmps26
 go_wp2_with fail
 refine cl.out.mono ?_
 rintro _ w1 ⟨v, rfl, hown, hb1⟩
 obtain ⟨A1, c1, rfl, hr1⟩ := RecsAt.own hown (by omega)
 have hblk1 := hblk.below hb1 (by simp)
 replace hb := below_next hb hb1
 have ca := Lib.hid (rat_walkB _ A1 c1 kind key w1 hr1)
 clear hown hb1 hblk cl
 cases hi : (liveL now rs).findIdx? (isAt kind key) with
 | none =>
  rw [show idxI (isAt kind key) (liveL now rs) = -1 by rw [idxI, hi]] at ca
  have hv : Hid (findO rs now kind key = none) := by show _ = _; rw [findO, hi]
  clear hi
  go_wp2_with fail
  refine ca.out.mono ?_
  rintro _ w2 ⟨rfl, hbn⟩
  have hblk2 := hblk1.below hbn (by have := hblk1.lt; omega)
  replace hb := below_next hb hbn
  clear hbn hblk1 ca hr1
  go_wp2_with (refine wpList_store_blk rfl 41 _ _ rfl w.heap.size _ Rc.none.arr _ rfl rfl hblk2 rfl rec_size Rc.none.ones ?_)
  refine bodyPost_ret (results_rec_tmp Tryz.results26 _ _ w.heap.size _ Rc.none rfl hblk2.setRow) rfl ⟨?_, below_setRow hb (Nat.le_refl _) _⟩
  rw [hv.out]
  rfl
 | some i =>
  have hil : i < (liveL now rs).length := by
   rw [List.findIdx?_eq_some_iff_getElem] at hi
   exact hi.1
  rw [show idxI (isAt kind key) (liveL now rs) = (i : Int) by rw [idxI, hi]] at ca
  obtain ⟨r, hrk⟩ : ∃ r, (liveL now rs)[i]? = some r := ⟨(liveL now rs)[i], List.getElem?_eq_getElem hil⟩
  have hv : Hid (findO rs now kind key = some r) := by show _ = _; rw [findO, hi]; exact hrk
  obtain ⟨ad, rfl⟩ : ∃ ad, A1 = some ad := by obtain ⟨ad, h, _⟩ := hr1.2.2.2 (by omega); exact ⟨ad, h⟩
  have hi0 : ¬ (i : Int) < 0 := by omega
  clear hi
  go_wp2_with fail
  refine ca.out.mono ?_
  rintro _ w2 ⟨rfl, hbn⟩
  have hblk2 := hblk1.below hbn (by have := hblk1.lt; omega)
  have hra := Lib.hid (rec_at (hr1.below hbn).2.2 hrk)
  replace hb := below_next hb hbn
  clear hbn hblk1 ca hr1
  go_wp2_with (first
   | (refine wpList_load_rec rfl _ rfl (ad.add (i * 15)) rfl r hra.out ?_)
   | (refine wpList_store_blk rfl 41 _ _ rfl w.heap.size _ r.arr _ rfl rfl hblk2 rfl rec_size r.ones ?_))
  refine bodyPost_ret (results_rec_tmp Tryz.results26 _ _ w.heap.size _ r rfl hblk2.setRow) rfl ⟨?_, below_setRow hb (Nat.le_refl _) _⟩
  rw [hv.out]
  rfl

def Fine (now : Int) (rs : List Rc) : Prop := (∀ r ∈ rs, 1 ≤ r.kind ∧ r.kind ≤ 6) ∧ ((liveL now rs).map (·.key)).Nodup
theorem live_live (now : Int) (rs : List Rc) : liveL now (liveL now rs) = liveL now rs := by rw [liveL, liveL, List.filter_filter]; simp
theorem live_mem {now : Int} {rs : List Rc} {r : Rc} (h : r ∈ liveL now rs) : r ∈ rs ∧ now < r.till := by
 rw [liveL, List.mem_filter] at h
 exact ⟨h.1, by simpa using h.2⟩
theorem Fine.sub {now : Int} {rs xs : List Rc} (h : Fine now rs) (hs : xs.Sublist rs) : Fine now xs := ⟨fun r hr => h.1 r (hs.mem hr), h.2.sublist ((hs.filter _).map _)⟩
theorem Fine.live {now : Int} {rs : List Rc} (h : Fine now rs) : Fine now (liveL now rs) := ⟨fun r hr => h.1 r (live_mem hr).1, by rw [live_live]; exact h.2⟩
theorem Fine.take {now kind key : Int} {rs : List Rc} (h : Fine now rs) : Fine now (takeL rs now kind key) := by
 unfold takeL
 split
 ·
  exact h.live.sub (List.eraseIdx_sublist ..)
 ·
  exact h
theorem Fine.put {now : Int} {rs : List Rc} {r : Rc} (h : Fine now rs) (hr : 1 ≤ r.kind ∧ r.kind ≤ 6) : Fine now (putL rs now r) := by
 unfold putL
 split
 ·
  rename_i h0
  have hno : (liveL now rs).any (fun x => x.key == r.key) = false := by
   rw [putC] at h0
   split at h0
   ·
    omega
   ·
    split at h0
    ·
     omega
    ·
     rename_i hh; simpa using hh
  refine ⟨fun x hx => ?_, ?_⟩
  ·
   rcases List.mem_append.1 hx with hx | hx
   ·
    exact h.1 x (live_mem hx).1
   ·
    rw [List.mem_singleton.1 hx]; exact hr
  ·
   have hfull : (((liveL now rs) ++ [r]).map (·.key)).Nodup := by
    rw [List.map_append, List.nodup_append]
    refine ⟨h.2, by simp, ?_⟩
    intro a ha b hb e
    rw [List.mem_map] at ha
    obtain ⟨x, hx, rfl⟩ := ha
    simp at hb
    subst hb
    rw [List.any_eq_false] at hno
    exact hno x hx (by simpa using e)
   exact hfull.sublist (List.filter_sublist.map _)
 ·
  exact h
theorem set_keys {l : List Rc} {i : Nat} {r x : Rc} (hx : l[i]? = some x) (hk : x.key = r.key) : (l.set i r).map (·.key) = l.map (·.key) := by
 apply List.ext_getElem?
 intro j
 rw [List.getElem?_map, List.getElem?_map, List.getElem?_set]
 by_cases h : i = j
 ·
  subst h
  rw [if_pos rfl, hx, if_pos (List.getElem?_eq_some_iff.1 hx).1]
  simp [hk]
 ·
  rw [if_neg h]
theorem Fine.change {now : Int} {rs : List Rc} {r : Rc} (h : Fine now rs) (hr : 1 ≤ r.kind ∧ r.kind ≤ 6) : Fine now (changeL rs now r) := by
 unfold changeL
 split
 ·
  rename_i i hi
  rw [changeI, List.findIdx?_eq_some_iff_getElem] at hi
  obtain ⟨hlt, hp, _⟩ := hi
  have hk : (liveL now rs)[i].key = r.key := by
   rw [isAt, Bool.and_eq_true] at hp
   simpa using hp.2
  refine ⟨fun x hx => ?_, ?_⟩
  ·
   rcases List.mem_or_eq_of_mem_set hx with hx | rfl
   ·
    exact h.1 x (live_mem hx).1
   ·
    exact hr
  ·
   have hfull : (((liveL now rs).set i r).map (·.key)).Nodup := by
    rw [set_keys (List.getElem?_eq_getElem hlt) hk]
    exact h.2
   exact hfull.sublist (List.filter_sublist.map _)
 ·
  exact h
theorem takeL_len (rs : List Rc) (now kind key : Int) : (takeL rs now kind key).length ≤ rs.length := by
 unfold takeL
 split
 ·
  have := (List.eraseIdx_sublist (liveL now rs) (by assumption)).length_le
  have := liveL_le now rs
  omega
 ·
  omega
theorem changeL_len (rs : List Rc) (now : Int) (r : Rc) : (changeL rs now r).length ≤ rs.length := by
 unfold changeL
 split
 ·
  rw [List.length_set]; exact liveL_le now rs
 ·
  omega
theorem putL_len (rs : List Rc) (now : Int) (r : Rc) : (putL rs now r).length ≤ rs.length + 1 := by
 unfold putL
 split
 ·
  have := liveL_le now rs
  simp
  omega
 ·
  omega
end
section
open Go.RowKit
theorem rmost_walk (k : Int) (w : World) : Calls Tryz.prog 109 #[.int .i64 k] w fun e w' => e = .returned (.int .i64 (mostI k)) ∧ Below w.heap.size w w' := by
 have hb := Below.refl w.heap.size w
 by_cases h : k = 1 ∨ k = 2 ∨ k = 3 ∨ k = 4 ∨ k = 5 ∨ k = 6
 ·
  rcases h with rfl | rfl | rfl | rfl | rfl | rfl
  all_goals
   go_enter Tryz.func109, Tryz.ntmps109
   go_wp2_with fail
   go_ret
   exact ⟨rfl, hb.alloc (Nat.le_refl _) _⟩
 ·
  have hv : Hid (mostI k = 0) := by
   show _ = _
   unfold mostI
   repeat (rw [if_neg (by omega)])
  by_cases h1 : k < 1
  ·
   clear h
   go_enter Tryz.func109, Tryz.ntmps109
   go_wp2_with fail
   go_ret
   exact ⟨by rw [hv.out]; rfl, hb⟩
  ·
   have h6 : 6 < k := by omega
   clear h
   go_enter Tryz.func109, Tryz.ntmps109
   go_wp2_with fail
   go_ret
   exact ⟨by rw [hv.out]; rfl, hb⟩
theorem rlife_walk (k : Int) (w : World) : Calls Tryz.prog 87 #[.int .i64 k] w fun e w' => e = .returned (.int .i64 (lifeI k)) ∧ Below w.heap.size w w' := by
 have hb := Below.refl w.heap.size w
 by_cases h : k = 1 ∨ k = 2 ∨ k = 3 ∨ k = 4 ∨ k = 5 ∨ k = 6
 ·
  rcases h with rfl | rfl | rfl | rfl | rfl | rfl
  all_goals
   go_enter Tryz.func87, Tryz.ntmps87
   go_wp2_with fail
   go_ret
   exact ⟨rfl, hb.alloc (Nat.le_refl _) _⟩
 ·
  have hv : Hid (lifeI k = 0) := by
   show _ = _
   unfold lifeI
   repeat (rw [if_neg (by omega)])
  by_cases h1 : k < 1
  ·
   clear h
   go_enter Tryz.func87, Tryz.ntmps87
   go_wp2_with fail
   go_ret
   exact ⟨by rw [hv.out]; rfl, hb⟩
  ·
   have h6 : 6 < k := by omega
   clear h
   go_enter Tryz.func87, Tryz.ntmps87
   go_wp2_with fail
   go_ret
   exact ⟨by rw [hv.out]; rfl, hb⟩
theorem rroom_walk (rs : List Rc) (A : Option Addr) (c : Nat) (now kind : Int) (w : World) (hr : RecsAt w A c rs) :
  Calls Tryz.prog 84 #[.slice A rs.length c, .int .i64 now, .int .i64 kind] w fun e w' => e = .returned (.int .i64 (roomI rs now kind)) ∧ Below w.heap.size w w' := by
 have hb := Below.refl w.heap.size w
 have hl1 := liveL_le now rs
 have hmm := mostI_le kind
 have hm := hr.2.1
 have HR := Lib.hid hr
 have cm := Lib.hid (rmost_walk kind w)
 obtain ⟨m, hmq⟩ : ∃ m, mostI kind = m := ⟨_, rfl⟩
 rw [hmq] at cm hmm
 obtain ⟨ls, hls⟩ : ∃ ls, liveL now rs = ls := ⟨_, rfl⟩
 rw [hls] at hl1
 have hv : Hid (roomI rs now kind = max (m - ((kindL kind ls).length : Int)) 0) := by show _ = _; rw [roomI, hmq, hls]
 have cl := Lib.hid (fun W h => rlive_walk rs A c now W h)
 rw [hls] at cl
 clear hr hmq hls
 go_enter Tryz.func84, Tryz.ntmps84
 go_wp2_with fail
 refine cm.out.mono ?_
 rintro _ w1 ⟨rfl, hbn⟩
 replace hb := below_next hb hbn
 have cl1 := Lib.hid (cl.out w1 (HR.out.below hbn))
 clear hbn cm cl
 go_wp2_with fail
 refine cl1.out.mono ?_
 rintro _ w2 ⟨v, rfl, hown, hb1⟩
 obtain ⟨A1, c1, rfl, hr1⟩ := RecsAt.own hown (by omega)
 replace hb := below_next hb hb1
 clear hown hb1 cl1
 go_wp2_with fail
 go_loopw [7, 9] (fun nv iv wr => ∃ k : Nat, k ≤ ls.length ∧ iv = .int .i64 k ∧ nv = .int .i64 (m - ((kindL kind (ls.take k)).length : Int)) ∧ w2 = wr) (fun _ iv _ => ls.length - (intOf iv).toNat)
 case atStart => exact ⟨0, by omega, rfl, by simp [kindL], rfl⟩
 case round =>
  obtain ⟨k, hk, rfl, rfl, rfl⟩ := hrel
  by_cases hlt : k < ls.length
  ·
   obtain ⟨ad, rfl⟩ : ∃ ad, A1 = some ad := by obtain ⟨ad, h, _⟩ := hr1.2.2.2 (by omega); exact ⟨ad, h⟩
   obtain ⟨r, hrk⟩ : ∃ r, ls[k]? = some r := ⟨ls[k], List.getElem?_eq_getElem hlt⟩
   obtain ⟨hk0, _, _⟩ := cell_field (rec_at hr1.2.2 hrk)
   have htf := take_filter (p := fun r => r.kind == kind) hrk
   have hqk := kindL_le kind (ls.take k)
   rw [List.length_take] at hqk
   obtain ⟨kd, hkd⟩ : ∃ kd, r.kind = kd := ⟨_, rfl⟩
   rw [hkd] at hk0
   have HKD := Lib.hid hkd
   have HTF := Lib.hid htf
   obtain ⟨q, hq⟩ : ∃ q, (kindL kind (ls.take k)).length = q := ⟨_, rfl⟩
   rw [hq] at hqk ⊢
   have HQ := Lib.hid hq
   have hqm : q ≤ 1000000 := by omega
   clear htf hkd hq hrk
   cases e1 : kd == kind
   ·
    have hq2 : Hid ((kindL kind (ls.take (k + 1))).length = q) := by
     show _ = _
     rw [kindL, HTF.out, HKD.out, e1, ← HQ.out, kindL]
     simp
    go_wp2_with fail
    exact ⟨⟨k + 1, by omega, by go_num, by rw [hq2.out], trivial⟩, by simp [intOf]; omega⟩
   ·
    have hq2 : Hid ((kindL kind (ls.take (k + 1))).length = q + 1) := by
     show _ = _
     rw [kindL, HTF.out, HKD.out, e1, ← HQ.out, kindL]
     simp
    go_wp2_with fail
    exact ⟨⟨k + 1, by omega, by go_num, by rw [hq2.out]; congr 1; omega, trivial⟩, by simp [intOf]; omega⟩
  ·
   obtain rfl : k = ls.length := by omega
   rw [List.take_length]
   have hqk := kindL_le kind ls
   obtain ⟨q, hq⟩ : ∃ q, (kindL kind ls).length = q := ⟨_, rfl⟩
   rw [hq] at hqk hv ⊢
   clear hq
   go_wp2_with fail
   go_ret
   exact ⟨by rw [hv.out]; rfl, hb⟩
theorem rrevoke_walk (rs : List Rc) (A : Option Addr) (c : Nat) (f : Int) (w : World) (hr : RecsAt w A c rs) :
  Calls Tryz.prog 50 #[.slice A rs.length c, .int .i64 f] w (OwnRec (revokeL f rs) w) := by
 obtain ⟨i0, hi, hz0, hz1, hz2⟩ := info_parts info_rec
 obtain ⟨hc, hm, hr⟩ := hr
 go_enter Tryz.func50, Tryz.ntmps50
 go_wp2_with fail
 go_loopw [5, 6] (fun ov nv wr => ∃ k : Nat, k ≤ rs.length ∧ nv = .int .i64 k ∧ wr.ownsRow w.heap.size 41 15 ov (revokeL f (rs.take k)).length (recCells (revokeL f (rs.take k))) ∧ Below w.heap.size w wr) (fun _ nv _ => rs.length - (intOf nv).toNat)
 case atStart => exact ⟨0, by omega, rfl, World.ownsRow_nil _ _ _ _, Below.refl _ _⟩
 case round =>
  obtain ⟨k, hk, rfl, hown, hbl⟩ := hrel
  by_cases hlt : k < rs.length
  ·
   obtain ⟨ad, rfl⟩ : ∃ ad, A = some ad := by obtain ⟨ad, h, _⟩ := hr.2 (by omega); exact ⟨ad, h⟩
   obtain ⟨r, hrk⟩ : ∃ r, rs[k]? = some r := ⟨rs[k], List.getElem?_eq_getElem hlt⟩
   have hra := rec_at (hr.below hbl) hrk
   obtain ⟨hk0, hk7, _⟩ := cell_field hra
   have HRA := Lib.hid hra
   have htf := Lib.hid (take_filter (p := keepB f) hrk)
   obtain ⟨l, hl⟩ : ∃ l, revokeL f (rs.take k) = l := ⟨_, rfl⟩
   have HL := Lib.hid hl
   have hll : l.length ≤ 1000000 := by
    rw [← hl]
    have := List.length_filter_le (keepB f) (rs.take k)
    rw [List.length_take] at this
    rw [revokeL_eq]
    omega
   rw [hl] at hown
   have hsz := hbl.size
   clear hra hl
   cases hp : keepB f r
   ·
    have htf2 : Hid (revokeL f (rs.take (k + 1)) = l) := by
     show _ = _
     have := htf.out
     rw [hp] at this
     rw [revokeL_eq, this, ← HL.out, revokeL_eq]
     simp
    have hbad := keep_no hp
    obtain ⟨kd, hkd⟩ : ∃ kd, r.kind = kd := ⟨_, rfl⟩
    rw [hkd] at hk0 hbad
    obtain ⟨fm, hfm⟩ : ∃ fm, r.fam = fm := ⟨_, rfl⟩
    rw [hfm] at hk7 hbad
    clear hkd hfm hp
    obtain ⟨hb1, hb2⟩ := hbad
    have hn7 : (fm != f) = false := by rw [bne, hb2]; rfl
    cases e5 : kd == 5
    ·
     rw [e5, Bool.false_or] at hb1
     have hn5 : (kd != 5) = true := by rw [bne, e5]; rfl
     have hn6 : (kd != 6) = false := by rw [bne, hb1]; rfl
     go_wp2_with fail
     exact ⟨⟨k + 1, by omega, by go_num, by rw [htf2.out]; exact hown, hbl⟩, by simp [intOf]; omega⟩
    ·
     clear hb1
     have hn5 : (kd != 5) = false := by rw [bne, e5]; rfl
     go_wp2_with fail
     exact ⟨⟨k + 1, by omega, by go_num, by rw [htf2.out]; exact hown, hbl⟩, by simp [intOf]; omega⟩
   ·
    have htf2 : Hid (revokeL f (rs.take (k + 1)) = l ++ [r]) := by
     show _ = _
     have := htf.out
     rw [hp] at this
     rw [revokeL_eq, this, ← HL.out, revokeL_eq]
     simp
    have hcase := keep_yes hp
    have h15 := r.sz
    have hrd := reads_new wr 41 r.cells
    obtain ⟨kd, hkd⟩ : ∃ kd, r.kind = kd := ⟨_, rfl⟩
    rw [hkd] at hk0 hcase
    obtain ⟨fm, hfm⟩ : ∃ fm, r.fam = fm := ⟨_, rfl⟩
    rw [hfm] at hk7 hcase
    clear hkd hfm hp
    rcases hcase with ⟨e5, e6⟩ | e7
    ·
     have hn5 : (kd != 5) = true := by rw [bne, e5]; rfl
     have hn6 : (kd != 6) = true := by rw [bne, e6]; rfl
     go_wp2_with (first
      | (refine wpList_load_rec rfl _ rfl (ad.add (k * 15)) rfl r HRA.out ?_)
      | (at_builtin; rw [fold_rec]; refine wpList_append_any (wr.alloc (.cells r.arr 41)) rfl (.tmp 36) (.tmp 41) 29 rfl w.heap.size 41 i0 (.agg Rc.none.arr) 15 176 Tryz.underlying29 hi hz0 hz1 hz2 rfl (by decide) u5 l.length (recCells l) rfl (hown.alloc _) (wr.heap.size + 1) _ 1 1 r.cells rfl hrd (fun u hu => recCells_ones [r] u (by simpa [recCells] using hu)) (by unfold maxLen; omega) (by omega) (by simp; omega) ?_; intro v' w2 hown2 hg2 hat2))
     have hb3 : Below w.heap.size w w2 := (hbl.alloc hsz _).grown hg2 (by simp; omega) (fun g hg => by have := hown.lt g hg; omega)
     exact ⟨⟨k + 1, by omega, by go_num, by rw [htf2.out]; exact rec_next hown2 rfl, hb3⟩, by simp [intOf]; omega⟩
    ·
     have hn7 : (fm != f) = true := by rw [bne, e7]; rfl
     have hcs : (kd != 5) = true ∧ (kd != 6) = true ∨ (kd != 5) = true ∧ (kd != 6) = false ∨ (kd != 5) = false := by
      cases (kd != 5) <;> cases (kd != 6) <;> simp
     rcases hcs with ⟨hn5, hn6⟩ | ⟨hn5, hn6⟩ | hn5
     all_goals
      go_wp2_with (first
       | (refine wpList_load_rec rfl _ rfl (ad.add (k * 15)) rfl r HRA.out ?_)
       | (at_builtin; rw [fold_rec]; refine wpList_append_any (wr.alloc (.cells r.arr 41)) rfl (.tmp 36) (.tmp 41) 29 rfl w.heap.size 41 i0 (.agg Rc.none.arr) 15 176 Tryz.underlying29 hi hz0 hz1 hz2 rfl (by decide) u5 l.length (recCells l) rfl (hown.alloc _) (wr.heap.size + 1) _ 1 1 r.cells rfl hrd (fun u hu => recCells_ones [r] u (by simpa [recCells] using hu)) (by unfold maxLen; omega) (by omega) (by simp; omega) ?_; intro v' w2 hown2 hg2 hat2))
      have hb3 : Below w.heap.size w w2 := (hbl.alloc hsz _).grown hg2 (by simp; omega) (fun g hg => by have := hown.lt g hg; omega)
      exact ⟨⟨k + 1, by omega, by go_num, by rw [htf2.out]; exact rec_next hown2 rfl, hb3⟩, by simp [intOf]; omega⟩
  ·
   obtain rfl : k = rs.length := by omega
   rw [List.take_length] at hown
   go_wp2_with fail
   go_ret
   exact ⟨_, rfl, hown, hbl⟩
end
section
open Go.RowKit
theorem room_live (rs : List Rc) (now k : Int) : roomI (liveL now rs) now k = roomI rs now k := by rw [roomI, roomI, live_live]
def NewRow (w : World) (A0 A : Option Addr) (c0 c : Nat) (rs0 rs : List Rc) : Prop := (A = A0 ∧ c = c0 ∧ rs = rs0) ∨ ∀ ad, A = some ad → w.heap.size ≤ ad.block
theorem own_new {w W : World} {B n c size : Nat} {T : TypeId} {A : Option Addr} {xs : List Value} (h : W.ownsRow B T size (.slice A n c) n xs) (hB : w.heap.size ≤ B) : ∀ ad, A = some ad → w.heap.size ≤ ad.block := by
 intro ad e
 subst e
 have := (h.lt ad.block rfl).1
 omega
def RecsE (rs : List Rc) (code : Int) (A0 : Option Addr) (c0 : Nat) (rs0 : List Rc) (w : World) (e : Ending) (w' : World) : Prop := ∃ A c, e = .returned (.tuple #[.slice A rs.length c, .int .i64 code]) ∧ RecsAt w' A c rs ∧ Below w.heap.size w w' ∧ NewRow w A0 A c0 c rs0 rs
theorem rput_walk (rs : List Rc) (A : Option Addr) (c : Nat) (now : Int) (r : Rc) (w : World) (hr : RecsAt w A c rs) (hm : rs.length ≤ 900000) :
  Calls Tryz.prog 86 #[.slice A rs.length c, .int .i64 now, .agg r.arr] w (RecsE (putL rs now r) (putC rs now r) A c rs w) := by
 obtain ⟨i0, hi, hz0, hz1, hz2⟩ := info_parts info_rec
 have hb := (Below.refl w.heap.size w).alloc (Nat.le_refl _) (.cells r.arr 41)
 have hblk := Blk.new w 41 r.arr
 have HR := Lib.hid hr
 have hl1 := liveL_le now rs
 have hc0 : (w.alloc (.cells r.arr 41)).cell? ⟨w.heap.size, 0, none⟩ = some (.int .i64 r.kind) := hblk.cell 0
 obtain ⟨k, hk⟩ : ∃ k, r.kind = k := ⟨_, rfl⟩
 obtain ⟨m, hmk⟩ : ∃ m, mostI k = m := ⟨_, rfl⟩
 have cm := Lib.hid (rmost_walk k)
 rw [hk] at hc0
 rw [hmk] at cm
 clear hr
 by_cases hm0 : m = 0
 ·
  have h0 : (m == 0) = true := by simpa using hm0
  have hcode : Hid (putC rs now r = 2) := by show _ = _; rw [putC, hk, hmk, if_pos hm0]
  have hlist : Hid (putL rs now r = rs) := by show _ = _; rw [putL, hcode.out]; rfl
  clear hm0 hmk hk
  go_enter Tryz.func86, Tryz.ntmps86
  go_wp2_with fail
  refine (cm.out _).mono ?_
  rintro _ w2 ⟨rfl, hbn⟩
  replace hb := below_next hb hbn
  clear hbn hc0
  go_wp2_with fail
  go_ret2
  exact ⟨A, c, by rw [hcode.out, hlist.out]; rfl, by rw [hlist.out]; exact HR.out.below hb, hb, .inl ⟨rfl, rfl, hlist.out⟩⟩
 ·
  have h0 : (m == 0) = false := by simpa using hm0
  have HM0 := Lib.hid hm0
  have HMK := Lib.hid hmk
  have HK := Lib.hid hk
  clear hm0 hmk hk
  go_enter Tryz.func86, Tryz.ntmps86
  go_wp2_with fail
  refine (cm.out _).mono ?_
  rintro _ w2 ⟨rfl, hbn⟩
  have hblk2 := hblk.below hbn (by simp)
  replace hb := below_next hb hbn
  clear hbn hc0
  have cl := Lib.hid (rlive_walk rs A c now w2 (HR.out.below hb))
  go_wp2_with fail
  refine cl.out.mono ?_
  rintro _ w3 ⟨v, rfl, hown, hb1⟩
  obtain ⟨A1, c1, rfl, hr1⟩ := RecsAt.own hown (by omega)
  have hblk3 := hblk2.below hb1 (by have := hblk2.lt; omega)
  have hown1 := hown.mono hb.size
  replace hb := below_next hb hb1
  obtain ⟨ls, hls⟩ : ∃ ls, liveL now rs = ls := ⟨_, rfl⟩
  rw [hls] at hl1 hr1 hown1 ⊢
  have HLS := Lib.hid hls
  have HR1 := Lib.hid hr1
  have HO1 := Lib.hid hown1
  clear hown hown1 hr1 hb1 hblk cl hls hblk2
  obtain ⟨ky, hky⟩ : ∃ ky, r.key = ky := ⟨_, rfl⟩
  have HKY := Lib.hid hky
  have hc1 : Hid (∀ q, (w3.drewN q).cell? ⟨w.heap.size, 1, none⟩ = some (.int .i64 ky)) := fun q => by rw [← hky]; exact (hblk3.drewN q).cell 1
  clear hky
  go_wp2_with fail
  go_loopw [9] (fun iv wr => ∃ (j : Nat), j ≤ ls.length ∧ iv = .int .i64 j ∧ Hid (∀ i, i < j → ∀ x, ls[i]? = some x → (x.key == ky) = false) ∧ ∃ q, wr = w3.drewN q) (fun iv _ => ls.length - (intOf iv).toNat)
  case atStart => exact ⟨0, by omega, rfl, fun i hi => by omega, 0, rfl⟩
  case round =>
   obtain ⟨j, hj, rfl, hno, q, rfl⟩ := hrel
   by_cases hlt : j < ls.length
   ·
    obtain ⟨ad, rfl⟩ : ∃ ad, A1 = some ad := by obtain ⟨ad, h, _⟩ := HR1.out.2.2.2 (by omega); exact ⟨ad, h⟩
    obtain ⟨x, hxk⟩ : ∃ x, ls[j]? = some x := ⟨ls[j], List.getElem?_eq_getElem hlt⟩
    obtain ⟨_, _, hx1⟩ := cell_field (rec_at (HR1.out.below (below_drewN (Below.refl w3.heap.size w3) (q + 1))).2.2 hxk)
    have hy1 := hc1.out (q + 1)
    have HXK := Lib.hid hxk
    obtain ⟨kx, hkx⟩ : ∃ kx, x.key = kx := ⟨_, rfl⟩
    rw [hkx] at hx1
    have HKX := Lib.hid hkx
    clear hkx hxk
    cases e : kx == ky
    ·
     have hno2 : Hid (∀ i, i < j + 1 → ∀ x, ls[i]? = some x → (x.key == ky) = false) := by
      show ∀ i, i < j + 1 → _
      intro i hi x' hx'
      rcases Nat.lt_or_ge i j with h | h
      ·
       exact hno.out i h x' hx'
      ·
       rw [show i = j by omega, HXK.out] at hx'
       injection hx' with e1
       rw [← e1, HKX.out]; exact e
     go_wp2_with fail
     refine wp_region_held_drew (S := fun W => W.cell? ⟨(ad.add (j * 15)).block, (ad.add (j * 15)).off + 1, none⟩ = some (.int .i64 kx) ∧ W.cell? ⟨w.heap.size, 1, none⟩ = some (.int .i64 ky)) (by kernel_rfl) ⟨hx1, hy1⟩ (fun hHeld => ?_)
     refine tkr 0 rfl ?_
     try simp only [nrm, Act.put]
     refine tkr 1 rfl ?_
     try simp only [nrm, Act.put]
     refine tkr 2 rfl ?_
     try simp only [nrm, Act.put]
     refine tkr 3 rfl ?_
     try simp only [nrm, Act.put]
     refine tkr 4 rfl ?_
     try simp only [nrm, Act.put]
     refine tkr 5 rfl ?_
     try simp only [nrm, Act.put]
     refine tkr 6 rfl ?_
     try simp only [nrm, Act.put]
     refine tkr 7 rfl ?_
     try simp only [nrm, Act.put]
     refine wpAnyH_done (by kernel_rfl) ?_ _
     clear hHeld hx1 hy1
     go_wp2_with fail
     exact ⟨⟨j + 1, by omega, by go_num, hno2, q + 1, rfl⟩, by simp [intOf]; omega⟩
    ·
     have hany : Hid ((liveL now rs).any (fun x => x.key == r.key) = true) := by
      show _ = _
      rw [HLS.out, HKY.out, List.any_eq_true]
      exact ⟨x, List.mem_of_getElem? HXK.out, by rw [HKX.out]; exact e⟩
     have hcode : Hid (putC rs now r = 6) := by show _ = _; rw [putC, HK.out, HMK.out, if_neg HM0.out, hany.out]; rfl
     have hlist : Hid (putL rs now r = rs) := by show _ = _; rw [putL, hcode.out]; rfl
     have HBQ := Lib.hid (below_drewN hb (q + 1))
     go_wp2_with fail
     refine wp_region_held_drew (S := fun W => W.cell? ⟨(ad.add (j * 15)).block, (ad.add (j * 15)).off + 1, none⟩ = some (.int .i64 kx) ∧ W.cell? ⟨w.heap.size, 1, none⟩ = some (.int .i64 ky)) (by kernel_rfl) ⟨hx1, hy1⟩ (fun hHeld => ?_)
     refine tkr 0 rfl ?_
     try simp only [nrm, Act.put]
     refine tkr 1 rfl ?_
     try simp only [nrm, Act.put]
     refine tkr 2 rfl ?_
     try simp only [nrm, Act.put]
     refine tkr 3 rfl ?_
     try simp only [nrm, Act.put]
     refine tkr 4 rfl ?_
     try simp only [nrm, Act.put]
     refine tkr 5 rfl ?_
     try simp only [nrm, Act.put]
     refine tkr 6 rfl ?_
     try simp only [nrm, Act.put]
     refine tkr 7 rfl ?_
     try simp only [nrm, Act.put]
     refine wpAnyH_done (by kernel_rfl) ?_ _
     clear hHeld hx1 hy1
     go_wp2_with fail
     go_ret2
     exact ⟨A, c, by rw [hcode.out, hlist.out]; rfl, by rw [hlist.out]; exact HR.out.below HBQ.out, HBQ.out, .inl ⟨rfl, rfl, hlist.out⟩⟩
   ·
    obtain rfl : j = ls.length := by omega
    have hany : Hid ((liveL now rs).any (fun x => x.key == r.key) = false) := by
     show _ = _
     rw [HLS.out, HKY.out, List.any_eq_false]
     intro x hx
     obtain ⟨i, hi, e⟩ := List.getElem_of_mem hx
     have := hno.out i hi x (by rw [List.getElem?_eq_getElem hi, e])
     simp [this]
    have hc0 : (w3.drewN q).cell? ⟨w.heap.size, 0, none⟩ = some (.int .i64 k) := by rw [← HK.out]; exact (hblk3.drewN q).cell 0
    have cr := Lib.hid (rroom_walk rs A c now k (w3.drewN q) (HR.out.below (below_drewN hb q)))
    have HBQ := Lib.hid (below_drewN hb q)
    have hblkq := hblk3.drewN q
    have hownq := Lib.hid (ownsRow_below HO1.out (below_drewN (Below.refl w3.heap.size w3) q))
    obtain ⟨t, ht⟩ : ∃ t, roomI rs now k = t := ⟨_, rfl⟩
    rw [ht] at cr
    have HT := Lib.hid ht
    clear ht hb hblk3
    cases e : t == 0
    ·
     go_wp2_with fail
     refine cr.out.mono ?_
     rintro _ w4 ⟨rfl, hbn⟩
     have hblk4 := hblkq.below hbn (by have := hblkq.lt; omega)
     have hown4 := ownsRow_below hownq.out hbn
     have hb := below_next HBQ.out hbn
     have hrd := reads_new w4 41 r.cells
     have h15 := r.sz
     clear hbn hc0 cr
     go_wp2_with (first
      | (refine wpList_load_rec rfl _ rfl ⟨w.heap.size, 0, none⟩ rfl r (blk_rec hblk4) ?_)
      | (at_builtin; rw [fold_rec]; refine wpList_append_any (w4.alloc (.cells r.arr 41)) rfl (.tmp 40) (.tmp 42) 29 rfl w.heap.size 41 i0 (.agg Rc.none.arr) 15 176 Tryz.underlying29 hi hz0 hz1 hz2 rfl (by decide) (.slice A1 ls.length c1) ls.length (recCells ls) rfl (hown4.alloc _) (w4.heap.size + 1) _ 1 1 r.cells rfl hrd (fun u hu => recCells_ones [r] u (by simpa [recCells] using hu)) (by unfold maxLen; omega) (by omega) (by have := hb.size; simp; omega) ?_; intro v' w5 hown5 hg5 hat5))
     have hcode : Hid (putC rs now r = 0) := by show _ = _; rw [putC, HK.out, HMK.out, if_neg HM0.out, hany.out, room_live, HT.out, if_neg (by simp), if_neg (by simpa using e)]
     have hlist : Hid (putL rs now r = ls ++ [r]) := by show _ = _; rw [putL, hcode.out, if_pos rfl, HLS.out]
     have hown6 := rec_next hown5 rfl
     obtain ⟨A6, c6, rfl, hr6⟩ := RecsAt.own hown6 (by simp; omega)
     go_ret2
     exact ⟨A6, c6, by rw [hcode.out, hlist.out]; rfl, by rw [hlist.out]; exact hr6, (hb.alloc hb.size _).grown hg5 (by have := hb.size; simp; omega) (fun g hg => by have := hown4.lt g hg; omega), .inr (own_new hown6 (by simp))⟩
    ·
     have hcode : Hid (putC rs now r = 16) := by show _ = _; rw [putC, HK.out, HMK.out, if_neg HM0.out, hany.out, room_live, HT.out, if_neg (by simp), if_pos (by simpa using e)]
     have hlist : Hid (putL rs now r = rs) := by show _ = _; rw [putL, hcode.out]; rfl
     go_wp2_with fail
     refine cr.out.mono ?_
     rintro _ w4 ⟨rfl, hbn⟩
     have hb := below_next HBQ.out hbn
     go_wp2_with fail
     go_ret2
     exact ⟨A, c, by rw [hcode.out, hlist.out]; rfl, by rw [hlist.out]; exact HR.out.below hb, hb, .inl ⟨rfl, rfl, hlist.out⟩⟩
end
section
open Go.RowKit
def RecsB (rs : List Rc) (b : Bool) (A0 : Option Addr) (c0 : Nat) (rs0 : List Rc) (w : World) (e : Ending) (w' : World) : Prop := ∃ A c, e = .returned (.tuple #[.slice A rs.length c, .bool b]) ∧ RecsAt w' A c rs ∧ Below w.heap.size w w' ∧ NewRow w A0 A c0 c rs0 rs
def RecsR (rs : List Rc) (o : Option Rc) (A0 : Option Addr) (c0 : Nat) (rs0 : List Rc) (w : World) (e : Ending) (w' : World) : Prop := ∃ A c, e = .returned (.tuple #[.slice A rs.length c, .agg (o.getD Rc.none).arr, .bool o.isSome]) ∧ RecsAt w' A c rs ∧ Below w.heap.size w w' ∧ NewRow w A0 A c0 c rs0 rs
theorem rchange_walk (rs : List Rc) (A : Option Addr) (c : Nat) (now : Int) (r : Rc) (w : World) (hr : RecsAt w A c rs) :
  Calls Tryz.prog 85 #[.slice A rs.length c, .int .i64 now, .agg r.arr] w (RecsB (changeL rs now r) (changeI rs now r).isSome A c rs w) := by
 have hb := (Below.refl w.heap.size w).alloc (Nat.le_refl _) (.cells r.arr 41)
 have hblk := Blk.new w 41 r.arr
 have HR := Lib.hid hr
 have hm := hr.2.1
 have hl1 := liveL_le now rs
 have cl := Lib.hid (rlive_walk rs A c now _ (hr.below hb))
 clear hr
 go_enter Tryz.func85, Tryz.ntmps85
 go_wp2_with fail
 refine cl.out.mono ?_
 rintro _ w1 ⟨v, rfl, hown, hb1⟩
 obtain ⟨A1, c1, rfl, hr1⟩ := RecsAt.own hown (by omega)
 have hblk1 := hblk.below hb1 (by simp)
 replace hb := below_next hb hb1
 have ca := Lib.hid (rat_walkB _ A1 c1 r.kind r.key w1 hr1)
 have hc0 : w1.cell? ⟨w.heap.size, 0, none⟩ = some (.int .i64 r.kind) := hblk1.cell 0
 have hc1 : w1.cell? ⟨w.heap.size, 1, none⟩ = some (.int .i64 r.key) := hblk1.cell 1
 clear hb1 hblk cl
 cases hi : changeI rs now r with
 | none =>
  rw [show idxI (isAt r.kind r.key) (liveL now rs) = -1 by rw [changeI] at hi; rw [idxI, hi]] at ca
  have ht : Hid (changeL rs now r = rs) := by show _ = _; rw [changeL, hi]
  have HI := Lib.hid hi
  clear hi hown
  go_wp2_with fail
  refine ca.out.mono ?_
  rintro _ w2 ⟨rfl, hbn⟩
  replace hb := below_next hb hbn
  clear hbn hblk1 ca hr1 hc0 hc1
  go_wp2_with fail
  go_ret2
  exact ⟨A, c, by rw [HI.out, ht.out]; rfl, by rw [ht.out]; exact HR.out.below hb, hb, .inl ⟨rfl, rfl, ht.out⟩⟩
 | some i =>
  have hil : i < (liveL now rs).length := by
   rw [changeI, List.findIdx?_eq_some_iff_getElem] at hi
   exact hi.1
  rw [show idxI (isAt r.kind r.key) (liveL now rs) = (i : Int) by rw [changeI] at hi; rw [idxI, hi]] at ca
  have ht : Hid (changeL rs now r = (liveL now rs).set i r) := by show _ = _; rw [changeL, hi]
  obtain ⟨g, cap, hform, hgb, hgl⟩ := hown.form (by omega)
  injection hform with h1 h2 h3
  subst h1 h3
  clear h2
  have hi0 : ¬ (i : Int) < 0 := by omega
  have HI := Lib.hid hi
  clear hi
  go_wp2_with fail
  refine ca.out.mono ?_
  rintro _ w4 ⟨rfl, hbn⟩
  have hblk4 := hblk1.below hbn (by have := hblk1.lt; omega)
  have hown4 := ownsRow_below hown hbn
  replace hb := below_next hb hbn
  clear hbn hblk1 ca hr1 hown hc0 hc1
  have hgb' : w.heap.size < g := by simp at hgb; omega
  go_wp2_with (first
   | (refine wpList_load_rec rfl _ rfl ⟨w.heap.size, 0, none⟩ rfl r (blk_rec hblk4) ?_)
   | (refine wpList_store_own rfl _ _ rfl _ g c1 i (liveL now rs) r hown4 hil rfl rfl ?_; intro w5 hown5 hg5 hs5))
  have h9 := hown5.mono (base' := w.heap.size) (by simp)
  rw [← ht.out] at h9
  have hle := changeL_len rs now r
  obtain ⟨A6, c6, h6, hr6⟩ := RecsAt.own h9 (by omega)
  injection h6 with h1 h2 h3
  subst h1 h3
  have hlen : (changeL rs now r).length = (liveL now rs).length := by rw [ht.out, List.length_set]
  go_ret2
  exact ⟨some ⟨g, 0, none⟩, c1, by rw [HI.out, hlen]; rfl, hr6, below_only hb hg5 (by omega) hb.size, .inr (own_new h9 (Nat.le_refl _))⟩
theorem recs_take {w : World} {B n i : Nat} {A : Option Addr} {rs : List Rc} (h : Reads w B 15 A n (recCells rs)) (hi : i ≤ rs.length) : Reads w B 15 A i (recCells (rs.take i)) := by
 have hn := h.1
 rw [recCells_len] at hn
 refine ⟨by rw [recCells_len, List.length_take]; omega, fun h0 => ?_⟩
 obtain ⟨ad, e, hl, hc⟩ := h.2 (by omega)
 refine ⟨ad, e, hl, fun j u hu => hc j u ?_⟩
 have : recCells rs = recCells (rs.take i) ++ recCells (rs.drop i) := by rw [← recCells_append, List.take_append_drop]
 rw [this, List.getElem?_append_left (List.getElem?_eq_some_iff.1 hu).1]
 exact hu
theorem recs_drop {w : World} {B n i : Nat} {g : Nat} {rs : List Rc} (h : Reads w B 15 (some ⟨g, 0, none⟩) n (recCells rs)) (hi : i < rs.length) (c : Nat) (hc : n ≤ c) :
  Reads w B 15 (if c = i + 1 then some ⟨g, 0, none⟩ else some ⟨g, (i + 1) * 15, none⟩) (n - (i + 1)) (recCells (rs.drop (i + 1))) := by
 have hn := h.1
 rw [recCells_len] at hn
 refine ⟨by rw [recCells_len, List.length_drop]; omega, fun h0 => ?_⟩
 obtain ⟨ad, e, hl, hcc⟩ := h.2 (by omega)
 injection e with e
 subst e
 rw [if_neg (by omega)]
 refine ⟨_, rfl, hl, fun j u hu => ?_⟩
 have h1 : recCells rs = recCells (rs.take (i + 1)) ++ recCells (rs.drop (i + 1)) := by rw [← recCells_append, List.take_append_drop]
 have h2 : (recCells rs)[(i + 1) * 15 + j]? = some u := by
  rw [h1, List.getElem?_append_right (by rw [recCells_len, List.length_take]; omega), recCells_len, List.length_take]
  rw [show (i + 1) * 15 + j - 15 * min (i + 1) rs.length = j by omega]
  exact hu
 have h3 := hcc _ _ h2
 rw [show (⟨g, (i + 1) * 15, none⟩ : Addr).add j = (⟨g, 0, none⟩ : Addr).add ((i + 1) * 15 + j) by simp [Addr.add]]
 exact h3
theorem rtake_walk (rs : List Rc) (A : Option Addr) (c : Nat) (now kind key : Int) (w : World) (hr : RecsAt w A c rs) :
  Calls Tryz.prog 97 #[.slice A rs.length c, .int .i64 now, .int .i64 kind, .int .i64 key] w (RecsR (takeL rs now kind key) (findO rs now kind key) A c rs w) := by
 obtain ⟨i0, hi0', hz0, hz1, hz2⟩ := info_parts info_rec
 have hb := (Below.refl w.heap.size w).alloc (Nat.le_refl _) (.cells Rc.none.arr 41)
 have hblk := Blk.new w 41 Rc.none.arr
 have hl1 := liveL_le now rs
 have hm := hr.2.1
 have HR := Lib.hid hr
 have cl := Lib.hid (rlive_walk rs A c now _ (hr.below hb))
 clear hr
 go_enter Tryz.func97, Tryz.ntmps97
 go_wp2_with fail
 refine cl.out.mono ?_
 rintro _ w1 ⟨v, rfl, hown, hb1⟩
 obtain ⟨A1, c1, rfl, hr1⟩ := RecsAt.own hown (by omega)
 have hblk1 := hblk.below hb1 (by simp)
 replace hb := below_next hb hb1
 have ca := Lib.hid (rat_walkB _ A1 c1 kind key w1 hr1)
 clear hb1 hblk cl
 cases hi : (liveL now rs).findIdx? (isAt kind key) with
 | none =>
  rw [show idxI (isAt kind key) (liveL now rs) = -1 by rw [idxI, hi]] at ca
  have hv : Hid (findO rs now kind key = none) := by show _ = _; rw [findO, hi]
  have ht : Hid (takeL rs now kind key = rs) := by show _ = _; rw [takeL, idxO, hi]
  clear hi hown
  go_wp2_with fail
  refine ca.out.mono ?_
  rintro _ w2 ⟨rfl, hbn⟩
  have hblk2 := hblk1.below hbn (by have := hblk1.lt; omega)
  replace hb := below_next hb hbn
  clear hbn hblk1 ca hr1
  go_wp2_with (refine wpList_store_blk rfl 41 _ _ rfl w.heap.size _ Rc.none.arr _ rfl rfl hblk2 rfl rec_size Rc.none.ones ?_)
  have hb9 := below_setRow hb (Nat.le_refl _) Rc.none.arr
  refine bodyPost_ret (results_t_rec_t Tryz.results97 _ _ w.heap.size _ Rc.none rfl hblk2.setRow) rfl ⟨A, c, ?_, ?_, hb9, .inl ⟨rfl, rfl, ht.out⟩⟩
  ·
   rw [hv.out, ht.out]
   rfl
  ·
   rw [ht.out]
   exact HR.out.below hb9
 | some i =>
  have hil : i < (liveL now rs).length := by
   rw [List.findIdx?_eq_some_iff_getElem] at hi
   exact hi.1
  rw [show idxI (isAt kind key) (liveL now rs) = (i : Int) by rw [idxI, hi]] at ca
  obtain ⟨r, hrk⟩ : ∃ r, (liveL now rs)[i]? = some r := ⟨(liveL now rs)[i], List.getElem?_eq_getElem hil⟩
  have hv : Hid (findO rs now kind key = some r) := by show _ = _; rw [findO, hi]; exact hrk
  have ht : Hid (takeL rs now kind key = (liveL now rs).eraseIdx i) := by show _ = _; rw [takeL, idxO, hi]
  obtain ⟨g, cap, hform, hgb, hgl⟩ := hown.form (by omega)
  injection hform with h1 h2 h3
  subst h1 h3
  clear h2
  have hi0 : ¬ (i : Int) < 0 := by omega
  clear hi
  go_wp2_with fail
  refine ca.out.mono ?_
  rintro _ w4 ⟨rfl, hbn⟩
  have hblk4 := hblk1.below hbn (by have := hblk1.lt; omega)
  have hown4 := ownsRow_below hown hbn
  have hr4 := hr1.below hbn
  have hra0 := rec_at hr4.2.2 hrk
  rw [add_zero_at] at hra0
  have hra := Lib.hid hra0
  clear hra0
  have hsz := hbn.size
  replace hb := below_next hb hbn
  have HR4 := Lib.hid hr4
  obtain ⟨ll, hll⟩ : ∃ ll, (liveL now rs).length = ll := ⟨_, rfl⟩
  have hlc : ll ≤ c1 := by have := hr1.1; omega
  have hic : i ≤ c1 := by omega
  have hi1 : i + 1 ≤ ll := by omega
  have hi2 : i + 1 ≤ c1 := by omega
  rw [hll] at hown4 ⊢
  have HLL := Lib.hid hll
  have hz3 : (0 : Int) ≤ (i : Int) + 1 := by omega
  have hz4 : (i : Int) + 1 ≤ (ll : Int) := by omega
  clear hll
  have hwr : IntKind.i64.wrap ((i : Int) + 1) = (i : Int) + 1 := by rw [IntKind.wrap_i64]; omega
  have hS0 : Blk (w4.alloc (.cells r.arr 41)).drew w4.heap.size 41 r.arr := Blk.new w4 _ _
  clear hbn hblk1 ca hr1 hown hr4
  go_wp2_with (first
   | (refine wpList_load_rec rfl _ rfl ⟨g, i * 15, none⟩ rfl r hra.out ?_)
   | (refine wpList_store_fresh w4 rfl 41 _ _ rfl _ r.arr _ rfl rfl rfl rec_size r.ones ?_))
  refine wp_region_held_drew (S := (fun W => Blk W w4.heap.size 41 r.arr)) (by kernel_rfl) hS0 (fun hHeld => ?_)
  refine tkr 1 rfl ?_
  try simp only [nrm, Act.put]
  refine tkr 2 rfl ?_
  try simp only [nrm, Act.put]
  refine tkr 3 rfl ?_
  try simp only [nrm, Act.put]
  refine tkr 5 rfl ?_
  try simp only [nrm, Act.put]
  refine tkr 6 rfl ?_
  try simp only [nrm, Act.put]
  refine tkr 7 rfl ?_
  try simp only [nrm, Act.put]
  refine tkr 8 rfl ?_
  try simp only [nrm, Act.put]
  refine tk 10 rfl (v := _) (yieldsIf_load_rec (by rfl) _ rfl ⟨w4.heap.size, 0, none⟩ rfl r (fun w h => blk_rec h)) ?_
  try simp only [nrm, Act.put]
  refine rd1 0 rfl fun K hK => ?_
  go_simp
  have hS1 : Blk (((w4.alloc (.cells r.arr 41)).alloc (.cells #[] 41)).drew) w4.heap.size 41 r.arr := ((Blk.new w4 _ _).alloc _).drew
  refine hK.out _ _ hS1 (fun hHeld => ?_)
  clear hK K hS1
  try simp only [nrm, Act.put]
  have ho1 : (((w4.alloc (.cells r.arr 41)).alloc (.cells #[] 41)).drew).ownsRow (w4.heap.size + 1) 41 15 (.slice (some ⟨w4.heap.size + 1, 0, none⟩) 0 0) 0 [] := by
   have := (own_empty15 (w4.alloc (.cells r.arr 41)) 41).drew
   simpa using this
  have hb6 : Below w4.heap.size w4 (((w4.alloc (.cells r.arr 41)).alloc (.cells #[] 41)).drew) := by
   have h1 := (Below.refl w4.heap.size w4).alloc (Nat.le_refl _) (.cells r.arr 41)
   exact below_drewN (h1.alloc h1.size (.cells #[] 41)) 1
  have hrd1 : Reads (((w4.alloc (.cells r.arr 41)).alloc (.cells #[] 41)).drew) w4.heap.size 15 (some ⟨g, 0, none⟩) i (recCells ((liveL now rs).take i)) := recs_take ((HR4.out.2.2).below hb6) (by omega)
  refine rd1 4 rfl fun K hK => ?_
  refine step_append_sl _ (by rfl) (.tmp 29) (.tmp 32) 29 rfl (w4.heap.size + 1) 41 i0 (.agg Rc.none.arr) 15 176 Tryz.underlying29 hi0' hz0 hz1 hz2 rfl (by decide) (.slice (some ⟨w4.heap.size + 1, 0, none⟩) 0 0) 0 [] rfl ho1 w4.heap.size _ i c1 (recCells ((liveL now rs).take i)) rfl hrd1 (fun u hu => recCells_ones _ u hu) (by unfold maxLen; omega) (by omega) (by simp) i (by omega) (recCells ((liveL now rs).take i)) (by simp) (fun A6 c6 w6 hc6 hown6 hg6 => ?_)
  have hne1 : some w4.heap.size ≠ some (w4.heap.size + 1) := fun e => by injection e with e; omega
  refine hK.out _ _ (hHeld.grown hg6 hne1) (fun hHeld => ?_)
  clear hK K
  try simp only [nrm, Act.put]
  have hb7 : Below w4.heap.size w4 w6 := hb6.grown hg6 (by simp; omega) (fun q hq => by simp [Value.ownBlock] at hq; omega)
  have hrd2 := recs_drop ((HR4.out.2.2).below hb7) hil c1 (by rw [HLL.out]; exact hlc)
  rw [HLL.out] at hrd2
  have hlm : ll ≤ 1000000 := by have := HLL.out; omega
  have hs6 : w4.heap.size + 1 ≤ w6.heap.size := by have := hg6.size; simp at this; omega
  refine rd1 9 rfl fun K hK => ?_
  refine step_append_sl _ (by rfl) (.tmp 33) (.tmp 37) 29 rfl (w4.heap.size + 1) 41 i0 (.agg Rc.none.arr) 15 176 Tryz.underlying29 hi0' hz0 hz1 hz2 rfl (by decide) (.slice A6 i c6) i (recCells ((liveL now rs).take i)) rfl hown6 w4.heap.size _ (ll - (i + 1)) (c1 - (i + 1)) (recCells ((liveL now rs).drop (i + 1))) rfl hrd2 (fun u hu => recCells_ones _ u hu) (by unfold maxLen; omega) (by omega) hs6 (ll - 1) (by omega) (recCells ((liveL now rs).eraseIdx i)) (by rw [← recCells_append, List.eraseIdx_eq_take_drop_succ]) (fun A7 c7 w7 hc7 hown7 hg7 => ?_)
  have hne2 : some w4.heap.size ≠ (Value.slice A6 i c6).ownBlock := fun e => by have := (hown6.lt _ e.symm).1; omega
  refine hK.out _ _ (hHeld.grown hg7 hne2) (fun hHeld => ?_)
  clear hK K
  try simp only [nrm, Act.put]
  have hb8 : Below w4.heap.size w4 w7 := hb7.grown hg7 (by have := hb7.size; omega) (fun q hq => by have := (hown6.lt _ hq).1; omega)
  have hblk8 := hblk4.below hb8 (by have := hblk4.lt; omega)
  have hne3 : w4.heap.size ≠ w.heap.size := by have := hblk4.lt; omega
  refine tkr 11 rfl ?_
  try simp only [nrm, Act.put]
  refine rd1 12 rfl fun K hK => ?_
  rw [if_pos (by rfl)]
  refine wp_store_blk 41 _ _ rfl w.heap.size _ r.arr _ rfl rfl hblk8 rfl rec_size r.ones ?_
  refine hK.out _ _ (hHeld.setOther hne3 _) (fun hHeld2 => ?_)
  clear hK K
  try simp only [nrm, Act.put]
  refine tkr 13 rfl ?_
  try simp only [nrm, Act.put]
  refine wpAnyH_done (by kernel_rfl) ?_ _
  have hlen : ((liveL now rs).eraseIdx i).length = ll - 1 := by rw [List.length_eraseIdx, if_pos hil, HLL.out]
  have hb9 : Below w.heap.size w w7 := below_next hb hb8
  have hb10 := below_setRow hb9 (Nat.le_refl _) r.arr
  go_wp2_with fail
  all_goals
   refine bodyPost_ret (results_t_rec_t Tryz.results97 _ _ w.heap.size _ r rfl hblk8.setRow) rfl ⟨A7, c7, ?_, ?_, hb10, .inr (own_new hown7 (by have := hblk4.lt; omega))⟩
   ·
    rw [hv.out, ht.out, hlen]
    rfl
   ·
    rw [ht.out]
    have h8 := (hown7.mono (base' := w.heap.size + 1) (by have := hblk4.lt; omega)).kept (setRow_only w7 w.heap.size r.arr) (.inr (fun e => by have := (hown7.lt _ e).1; have := hblk4.lt; omega))
    rw [← hlen] at h8
    obtain ⟨A8, c8, e8, hr8⟩ := RecsAt.own h8 (by omega)
    injection e8 with e1 e2 e3
    subst e1 e3
    exact hr8
end
end S19
end Go.Proofs.YtnhjgocdepbajaaGreat

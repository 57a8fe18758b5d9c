/- own.List of clients, users, records: rows in memory of their own. Condition: rows of sizes that a machine bears. Printed by wip/tools/genXxa.py. -/
import Derived.Test.YtnhjgocdepbajaaGreatXe
set_option linter.unusedVariables false
set_option linter.unusedSimpArgs false
set_option maxRecDepth 20000
set_option maxHeartbeats 2000000
namespace Go.Proofs.YtnhjgocdepbajaaGreat
open Go.RowKit S19 C17 R
theorem run_copy_rows {P : Program} (w : World) (dT sT ty elem : TypeId) (k : Nat) (g o dLen dCap : Nat) (a : Addr) (sLen sCap : Nat) (cur : Array Value) (t : TypeId) (cs : List Value)
  (hu : P.underlying dT = some (.slice elem)) (hs : (P.info? elem).map (·.size) = some k)
  (hg : w.heap[g]? = some (.cells cur t (0, 0))) (hn : cs.length = Nat.min sLen dLen * k)
  (hsrc : ∀ j v, cs[j]? = some v → w.cell? (a.add j) = some v) (hfit : o + cs.length ≤ cur.size) (h1 : ∀ v ∈ cs, v.oneCell' = true) :
  (Builtin.copy_ #[dT, sT] ty #[.slice (some ⟨g, o, none⟩) dLen dCap, .slice (some a) sLen sCap]).run P w =
   .ok (goInt (Nat.min sLen dLen)) (w.setRow g (cur.toList.take o ++ cs ++ cur.toList.drop (o + cs.length)).toArray) := by
 have hl := run_loadCells_list (P := P) w a cs hsrc
 have hst := run_storeCells_at P g o t cs 0 cur w hg (by simpa using hfit) h1
 cases hq : P.info? elem with
 | none => simp [hq] at hs
 | some i =>
  have hi : i.size = k := by simpa [hq] using hs
  simp [Builtin.copy_, run_underlying hu, Builtin.lenOf, Builtin.firstCells, sizeOf, typeInfo, hq, hi, ← hn, hl, hst]
theorem wpList_copy_rows {P : Program} {w w0 : World} {ops : Array Oper} {rest : List Oper} {o : Oper} {a : Act} {Q : Exit → Act → World → Prop} (hgd : o.guard = none) (d s : Operand) (dT sT : TypeId)
  (ho : o.op = .call { callee := .builtin .copy, args := #[d, s], argTypes := #[dT, sT] }) (elem : TypeId) (k : Nat) (hu : P.underlying dT = some (.slice elem)) (hsz : (P.info? elem).map (·.size) = some k)
  (n g : Nat) (A : Option Addr) (sCap : Nat) (hd : a.eval d = .slice (some ⟨g, 0, none⟩) n n) (hs : a.eval s = .slice A n sCap) (cur : Array Value) (t : TypeId) (hg : Blk w g t cur) (hc : cur.size = n * k) (cs : List Value) (B : Nat)
  (hr : Reads w B k A n cs) (h1 : ∀ v ∈ cs, v.oneCell' = true) (hB : Below w0.heap.size w0 w) (hlo : w0.heap.size ≤ g)
  (h : ∀ w' v, Blk w' g t cs.toArray → Below w0.heap.size w0 w' → wpList P ops Q rest (a.put o.dst v) w') : wpList P ops Q (o :: rest) a w := by
 have hl := hr.1
 by_cases h0 : n = 0
 ·
  subst h0
  obtain rfl : cs = [] := List.eq_nil_of_length_eq_zero (by omega)
  have hcur : cur = #[] := Array.eq_empty_of_size_eq_zero (by omega)
  subst hcur
  refine wpList_plain hgd fun K hK => ?_
  have hrun : (Builtin.copy_ #[dT, sT] o.type #[.slice (some ⟨g, 0, none⟩) 0 0, .slice A 0 sCap]).run P w = .ok (goInt 0) w := by
   cases hq : P.info? elem with
   | none => simp [hq] at hsz
   | some i =>
    have hlc : ∀ (x : Addr), (loadCells x 0).run P w = .ok #[] w := fun x => by simpa using run_loadCells_list (P := P) w x [] (by simp)
    cases A <;> simp [Builtin.copy_, run_underlying hu, Builtin.lenOf, Builtin.firstCells, sizeOf, typeInfo, hq, storeCells, hlc]
  unfold Oper.wp
  simp [execOp, ho, resolve, invoke, builtin, hd, hs, hrun, Result.andThen]
  exact hK _ _ (h w _ hg hB)
 ·
  obtain ⟨ad, rfl, hb, hcell⟩ := hr.2 (by omega)
  refine wpList_plain hgd fun K hK => ?_
  have hrun := run_copy_rows (P := P) w dT sT o.type elem k g 0 n n ad n sCap cur t cs hu hsz hg (by rw [hl]; simp [Nat.min_self]) hcell (by omega) h1
  unfold Oper.wp
  simp [execOp, ho, resolve, invoke, builtin, hd, hs, hrun, Result.andThen]
  have e : (cs ++ List.drop cs.length cur.toList) = cs := by
   rw [List.drop_eq_nil_of_le (by simp; omega), List.append_nil]
  have e2 : cs.toArray ++ (List.drop cs.length cur.toList).toArray = cs.toArray := by rw [List.append_toArray, e]
  first
   | (rw [e]; exact hK _ _ (h _ _ hg.setRow (below_setRow hB hlo _)))
   | (rw [e2]; exact hK _ _ (h _ _ hg.setRow (below_setRow hB hlo _)))
theorem user_ones (us : List UsP) : ∀ u ∈ uCells us, u.oneCell' = true := by
 intro u hu
 rw [uCells, List.mem_flatMap] at hu
 obtain ⟨f, _, hu⟩ := hu
 simp [UsP.cells, strV] at hu
 rcases hu with rfl | rfl <;> rfl
theorem recs_ones (rs : List Rc) : ∀ u ∈ recCells rs, u.oneCell' = true := by
 intro u hu
 rw [recCells, List.mem_flatMap] at hu
 obtain ⟨f, _, hu⟩ := hu
 have := f.ones
 rw [Rc.arr, List.all_toArray] at this
 exact List.all_eq_true.1 this u hu
def RowsC (n : Nat) (cs : List Value) (w : World) (e : Ending) (w' : World) : Prop :=
 ∃ g : Nat, e = .returned (.slice (some ⟨g, 0, none⟩) n n) ∧ w.heap.size ≤ g ∧ Blk w' g 67 cs.toArray ∧ Below w.heap.size w w'
theorem infoC : (Tryz.prog.info? 67).map (fun i => (i.zero, i.size, i.bytes)) = some (some (.agg clZ.arr), 4, 64) := by kernel_rfl
theorem listC_walk (n : Nat) (cs : List Value) (A : Option Addr) (c : Nat) (w : World) (hr : Reads w w.heap.size 4 A n cs) (h1 : ∀ v ∈ cs, v.oneCell' = true) (hn : n ≤ 1000000) :
  Calls Tryz.prog 74 #[.slice A n c] w (RowsC n cs w) := by
 obtain ⟨i0, hi, hz0, hz1, hz2⟩ := infoS4 infoC
 have hmk : ∀ W : World, (Instr.makeSlice 27 (.int .i64 (n : Int)) (.int .i64 (n : Int))).run Tryz.prog W = .ok (.slice (some ⟨W.heap.size, 0, none⟩) n n) (W.alloc (.cells (madeCells clZ.arr (n * 4)) 67)) := fun W => by
  have := run_make (P := Tryz.prog) W 27 67 i0 _ Tryz.underlying27 hi hz0 .i64 .i64 (n : Int) (n : Int) (by omega) (by omega) (by rw [hz2]; omega) (by omega)
  rw [hz1] at this
  simp only [Int.toNat_natCast] at this
  exact this
 have HB := Lib.hid (Blk.new w 67 (madeCells clZ.arr (n * 4)))
 have HL := Lib.hid ((Below.refl w.heap.size w).alloc (Nat.le_refl _) (.cells (madeCells clZ.arr (n * 4)) 67))
 have HS := Lib.hid (size_madeCells clZ.arr (n * 4))
 have HR := Lib.hid (hr.alloc (Nat.le_refl _) (.cells (madeCells clZ.arr (n * 4)) 67))
 generalize madeCells clZ.arr (n * 4) = mc at hmk HB HL HS HR
 clear hr hi hz0 hz1 hz2
 have H1 := Lib.hid h1
 clear h1
 go_enter Tryz.func74, Tryz.ntmps74
 go_wp2_with (first
  | ((with_reducible refine wpList_copy_rows rfl (.tmp 7) (.tmp 8) 27 27 rfl 67 4 Tryz.underlying27 (by kernel_rfl) n w.heap.size A c rfl rfl mc 67 HB.out HS.out cs w.heap.size HR.out H1.out HL.out (Nat.le_refl _) ?_); intro w2 v hh2 hb2; replace hh2 := Lib.hid hh2))
 go_ret
 exact ⟨w.heap.size, rfl, Nat.le_refl _, hh2.out, hb2⟩
def RowsU (n : Nat) (cs : List Value) (w : World) (e : Ending) (w' : World) : Prop :=
 ∃ g : Nat, e = .returned (.slice (some ⟨g, 0, none⟩) n n) ∧ w.heap.size ≤ g ∧ Blk w' g 65 cs.toArray ∧ Below w.heap.size w w'
theorem infoU : (Tryz.prog.info? 65).map (fun i => (i.zero, i.size, i.bytes)) = some (some (.agg #[.string ⟨#[]⟩, .int .i64 0]), 2, 24) := by kernel_rfl
theorem listU_walk (n : Nat) (cs : List Value) (A : Option Addr) (c : Nat) (w : World) (hr : Reads w w.heap.size 2 A n cs) (h1 : ∀ v ∈ cs, v.oneCell' = true) (hn : n ≤ 1000000) :
  Calls Tryz.prog 75 #[.slice A n c] w (RowsU n cs w) := by
 obtain ⟨i0, hi, hz0, hz1, hz2⟩ := infoS4 infoU
 have hmk : ∀ W : World, (Instr.makeSlice 28 (.int .i64 (n : Int)) (.int .i64 (n : Int))).run Tryz.prog W = .ok (.slice (some ⟨W.heap.size, 0, none⟩) n n) (W.alloc (.cells (madeCells #[.string ⟨#[]⟩, .int .i64 0] (n * 2)) 65)) := fun W => by
  have := run_make (P := Tryz.prog) W 28 65 i0 _ Tryz.underlying28 hi hz0 .i64 .i64 (n : Int) (n : Int) (by omega) (by omega) (by rw [hz2]; omega) (by omega)
  rw [hz1] at this
  simp only [Int.toNat_natCast] at this
  exact this
 have HB := Lib.hid (Blk.new w 65 (madeCells #[.string ⟨#[]⟩, .int .i64 0] (n * 2)))
 have HL := Lib.hid ((Below.refl w.heap.size w).alloc (Nat.le_refl _) (.cells (madeCells #[.string ⟨#[]⟩, .int .i64 0] (n * 2)) 65))
 have HS := Lib.hid (size_madeCells #[.string ⟨#[]⟩, .int .i64 0] (n * 2))
 have HR := Lib.hid (hr.alloc (Nat.le_refl _) (.cells (madeCells #[.string ⟨#[]⟩, .int .i64 0] (n * 2)) 65))
 generalize madeCells #[.string ⟨#[]⟩, .int .i64 0] (n * 2) = mc at hmk HB HL HS HR
 clear hr hi hz0 hz1 hz2
 have H1 := Lib.hid h1
 clear h1
 go_enter Tryz.func75, Tryz.ntmps75
 go_wp2_with (first
  | ((with_reducible refine wpList_copy_rows rfl (.tmp 7) (.tmp 8) 28 28 rfl 65 2 Tryz.underlying28 (by kernel_rfl) n w.heap.size A c rfl rfl mc 65 HB.out HS.out cs w.heap.size HR.out H1.out HL.out (Nat.le_refl _) ?_); intro w2 v hh2 hb2; replace hh2 := Lib.hid hh2))
 go_ret
 exact ⟨w.heap.size, rfl, Nat.le_refl _, hh2.out, hb2⟩
def RowsR (n : Nat) (cs : List Value) (w : World) (e : Ending) (w' : World) : Prop :=
 ∃ g : Nat, e = .returned (.slice (some ⟨g, 0, none⟩) n n) ∧ w.heap.size ≤ g ∧ Blk w' g 41 cs.toArray ∧ Below w.heap.size w w'
theorem infoR : (Tryz.prog.info? 41).map (fun i => (i.zero, i.size, i.bytes)) = some (some (.agg Rc.none.arr), 15, 176) := by kernel_rfl
theorem listR_walk (n : Nat) (cs : List Value) (A : Option Addr) (c : Nat) (w : World) (hr : Reads w w.heap.size 15 A n cs) (h1 : ∀ v ∈ cs, v.oneCell' = true) (hn : n ≤ 1000000) :
  Calls Tryz.prog 76 #[.slice A n c] w (RowsR n cs w) := by
 obtain ⟨i0, hi, hz0, hz1, hz2⟩ := infoS4 infoR
 have hmk : ∀ W : World, (Instr.makeSlice 29 (.int .i64 (n : Int)) (.int .i64 (n : Int))).run Tryz.prog W = .ok (.slice (some ⟨W.heap.size, 0, none⟩) n n) (W.alloc (.cells (madeCells Rc.none.arr (n * 15)) 41)) := fun W => by
  have := run_make (P := Tryz.prog) W 29 41 i0 _ Tryz.underlying29 hi hz0 .i64 .i64 (n : Int) (n : Int) (by omega) (by omega) (by rw [hz2]; omega) (by omega)
  rw [hz1] at this
  simp only [Int.toNat_natCast] at this
  exact this
 have HB := Lib.hid (Blk.new w 41 (madeCells Rc.none.arr (n * 15)))
 have HL := Lib.hid ((Below.refl w.heap.size w).alloc (Nat.le_refl _) (.cells (madeCells Rc.none.arr (n * 15)) 41))
 have HS := Lib.hid (size_madeCells Rc.none.arr (n * 15))
 have HR := Lib.hid (hr.alloc (Nat.le_refl _) (.cells (madeCells Rc.none.arr (n * 15)) 41))
 generalize madeCells Rc.none.arr (n * 15) = mc at hmk HB HL HS HR
 clear hr hi hz0 hz1 hz2
 have H1 := Lib.hid h1
 clear h1
 go_enter Tryz.func76, Tryz.ntmps76
 go_wp2_with (first
  | ((with_reducible refine wpList_copy_rows rfl (.tmp 7) (.tmp 8) 29 29 rfl 41 15 Tryz.underlying29 (by kernel_rfl) n w.heap.size A c rfl rfl mc 41 HB.out HS.out cs w.heap.size HR.out H1.out HL.out (Nat.le_refl _) ?_); intro w2 v hh2 hb2; replace hh2 := Lib.hid hh2))
 go_ret
 exact ⟨w.heap.size, rfl, Nat.le_refl _, hh2.out, hb2⟩
end Go.Proofs.YtnhjgocdepbajaaGreat

/- Steps over frames: a variable made, loaded, stored; results out of variables; regions that draw their order. No condition of its own. -/
import Derived.Test.YtnhjgocdepbajaaGreatXf
import Derived.Test.YtnhjgocdepbajaaGreatB1
set_option linter.unusedVariables false
set_option linter.unusedSimpArgs false
set_option maxRecDepth 20000
namespace Go.Proofs.YtnhjgocdepbajaaGreat
open Go.RowKit S19 C17
class ZeroIs (t : TypeId) (cs : outParam (Array Value)) : Prop where
 z : ∃ z : Value, z.cells = cs ∧ ∀ w, (zeroValue t).run Tryz.prog w = .ok z w
class StructIs (t : TypeId) where
 n : Nat
 d : ∃ d, Tryz.prog.underlying t = some d ∧ rowD d = true
 s : (Tryz.prog.info? t).map (·.size) = some n
class OneIs (t : TypeId) : Prop where
 d : ∃ d, Tryz.prog.underlying t = some d ∧ rowD d = false
 s : (Tryz.prog.info? t).map (·.size) = some 1
def stZ : Array Value := #[.string ⟨#[]⟩, .int .i64 0, .slice none 0 0, .slice none 0 0, .slice none 0 0]
def srZ : Array Value := #[.int .i64 0, .int .i64 0, .int .i64 0]
instance : ZeroIs 31 stZ := ⟨.agg stZ, rfl, fun _ => by kernel_rfl⟩
instance : ZeroIs 33 srZ := ⟨.agg srZ, rfl, fun _ => by kernel_rfl⟩
instance : ZeroIs 41 Rc.none.arr := ⟨.agg Rc.none.arr, rfl, fun _ => by kernel_rfl⟩
instance : ZeroIs 39 wt0.arr := ⟨.agg wt0.arr, rfl, fun _ => by kernel_rfl⟩
instance : ZeroIs 55 gr0.arr := ⟨.agg gr0.arr, rfl, fun _ => by kernel_rfl⟩
instance : StructIs 31 := ⟨5, ⟨_, Tryz.underlying31, rfl⟩, by kernel_rfl⟩
instance : StructIs 33 := ⟨3, ⟨_, Tryz.underlying33, rfl⟩, by kernel_rfl⟩
instance : StructIs 41 := ⟨15, ⟨_, Tryz.underlying41, rfl⟩, by kernel_rfl⟩
instance : StructIs 39 := ⟨7, ⟨_, Tryz.underlying39, rfl⟩, by kernel_rfl⟩
instance : StructIs 55 := ⟨17, ⟨_, Tryz.underlying55, rfl⟩, by kernel_rfl⟩
instance : OneIs 3 := ⟨⟨_, Tryz.underlying3, rfl⟩, by kernel_rfl⟩
instance : OneIs 4 := ⟨⟨_, Tryz.underlying4, rfl⟩, by kernel_rfl⟩
instance : OneIs 9 := ⟨⟨_, Tryz.underlying9, rfl⟩, by kernel_rfl⟩
instance : OneIs 27 := ⟨⟨_, Tryz.underlying27, rfl⟩, by kernel_rfl⟩
instance : OneIs 28 := ⟨⟨_, Tryz.underlying28, rfl⟩, by kernel_rfl⟩
instance : OneIs 29 := ⟨⟨_, Tryz.underlying29, rfl⟩, by kernel_rfl⟩
class OnesL (l : List Value) : Prop where
 h : ∀ v ∈ l, v.oneCell' = true
class Ones (cs : Array Value) : Prop where
 h : cs.all (·.oneCell') = true
instance : OnesL [] := ⟨fun v h => by cases h⟩
theorem onesL_cons {v : Value} {l : List Value} (h : v.oneCell' = true) (hl : OnesL l) : OnesL (v :: l) := ⟨fun u hu => by
 rcases List.mem_cons.1 hu with e | hu
 ·
  rw [e]; exact h
 ·
  exact hl.h u hu⟩
instance {k : IntKind} {z : Int} {l : List Value} [h : OnesL l] : OnesL (.int k z :: l) := onesL_cons rfl h
instance {b : Bool} {l : List Value} [h : OnesL l] : OnesL (.bool b :: l) := onesL_cons rfl h
instance {s : ByteArray} {l : List Value} [h : OnesL l] : OnesL (.string s :: l) := onesL_cons rfl h
instance {A : Option Addr} {n c : Nat} {l : List Value} [h : OnesL l] : OnesL (.slice A n c :: l) := onesL_cons rfl h
instance {A : Option Addr} {l : List Value} [h : OnesL l] : OnesL (.pointer A :: l) := onesL_cons rfl h
instance {l : List Value} [h : OnesL l] : Ones l.toArray := ⟨by rw [List.all_toArray]; simpa using h.h⟩
theorem ones_set {cs : Array Value} {k : Nat} {v : Value} (h : Ones cs) (hv : v.oneCell' = true) : Ones (cs.setIfInBounds k v) := ⟨by
 rw [Array.all_eq_true_iff_forall_mem]
 intro u hu
 rcases Array.mem_or_eq_of_mem_setIfInBounds hu with h1 | h1
 ·
  exact Array.all_eq_true_iff_forall_mem.1 h.h u h1
 ·
  rw [h1]; exact hv⟩
instance {cs : Array Value} {k : Nat} {A : Option Addr} {n c : Nat} [h : Ones cs] : Ones (cs.setIfInBounds k (.slice A n c)) := ones_set h rfl
instance {cs : Array Value} {k : Nat} {kd : IntKind} {z : Int} [h : Ones cs] : Ones (cs.setIfInBounds k (.int kd z)) := ones_set h rfl
instance {cs : Array Value} {k : Nat} {b : Bool} [h : Ones cs] : Ones (cs.setIfInBounds k (.bool b)) := ones_set h rfl
instance {r : Rc} : Ones r.arr := ⟨r.ones⟩
instance {s : Sr} : Ones s.arr := inferInstanceAs (Ones #[.int .i64 s.n, .int .i64 s.conn, .int .i64 s.now])
instance {w : Wt} : Ones w.arr := inferInstanceAs (Ones #[.string w.t1, .string w.t2, .string w.t3, .string w.t4, .string w.t5, .string w.t6, .string w.t7])
instance {nm : List UInt8} {key : Int} {CA : Option Addr} {cn cc : Nat} {UA : Option Addr} {un uc : Nat} {RA : Option Addr} {rn rc : Nat} : Ones (stA nm key CA cn cc UA un uc RA rn rc) := inferInstanceAs (Ones #[.string ⟨nm.toArray⟩, .int .i64 key, .slice CA cn cc, .slice UA un uc, .slice RA rn rc])
instance : Ones stZ := inferInstanceAs (Ones #[_, _, _, _, _])
instance : Ones srZ := inferInstanceAs (Ones #[_, _, _])
instance {g : Gr} : Ones g.arr := inferInstanceAs (Ones #[.int .i64 g.access, .int .i64 g.refresh, .int .i64 g.r.kind, .int .i64 g.r.key, .int .i64 g.r.till, .bool g.r.used, .int .i64 g.r.client, .int .i64 g.r.user, .int .i64 g.r.sess, .int .i64 g.r.fam, .string g.r.s1, .string g.r.s2, .string g.r.s3, .string g.r.s4, .string g.r.s5, .string g.r.s6, .string g.r.s7])
section
variable {w0 w : World} {bs : List Bx} {D : World → Prop} {ops : Array Oper} {rest : List Oper} {op : Oper} {a : Act} {K : Act → World → Prop} {Q : Exit → Act → World → Prop}
theorem aA {t : TypeId} {cs : Array Value} [hz : ZeroIs t cs] (ho : op.op = .alloc t) (hw : Region.wanted op (yielded ops a.tmps) = true) (hF : Fr w0 w bs D)
  (h : ∀ g w', Fr w0 w' (bs ++ [(g, t, cs)]) D → wpList Tryz.prog ops Q rest (a.put op.dst (.pointer (some ⟨g, 0, none⟩))) w') : wpList Tryz.prog ops Q (op :: rest) a w :=
 wpL hw fun K hK => by
  obtain ⟨z, hc, hz⟩ := hz.z
  exact wp_alloc_fr t ho hF cs z (hz w) hc fun g w' hF' _ => hK _ _ (h g w' hF')
theorem aB {t : TypeId} {x : Operand} {cs : Array Value} (ho : op.op = .box t x) (hw : Region.wanted op (yielded ops a.tmps) = true) (hF : Fr w0 w bs D) (hc : a.eval x = .agg cs)
  (h : ∀ g w', Fr w0 w' (bs ++ [(g, t, cs)]) D → wpList Tryz.prog ops Q rest (a.put op.dst (.pointer (some ⟨g, 0, none⟩))) w') : wpList Tryz.prog ops Q (op :: rest) a w :=
 wpL hw fun K hK => wp_box_fr t x ho hF cs (by rw [hc]; rfl) fun g w' hF' _ => hK _ _ (h g w' hF')
class At (bs : List Bx) (g : Nat) (i : outParam Nat) (t : outParam TypeId) (cs : outParam (Array Value)) : Prop where
 h : bs[i]? = some (g, t, cs)
instance {bs : List Bx} {x : Bx} {g i : Nat} {t : TypeId} {cs : Array Value} [h : At bs g i t cs] : At (x :: bs) g (i + 1) t cs := ⟨by rw [List.getElem?_cons_succ]; exact h.h⟩
instance {bs : List Bx} {g : Nat} {t : TypeId} {cs : Array Value} : At ((g, t, cs) :: bs) g 0 t cs := ⟨rfl⟩
theorem iL {t t' : TypeId} {x : Operand} {g k i : Nat} {cs : Array Value} (hF : Fr w0 w bs D) (ho : op.op = .load t x) (hx : a.eval x = .pointer (some ⟨g, k, none⟩)) [hb : At bs g i t' cs]
  (h : op.op = .load t x → a.eval x = .pointer (some ⟨g, k, none⟩) → bs[i]? = some (g, t', cs) → wpList Tryz.prog ops Q (op :: rest) a w) : wpList Tryz.prog ops Q (op :: rest) a w := h ho hx hb.h
theorem iS {t t' : TypeId} {x y : Operand} {g k i : Nat} {cs : Array Value} (hF : Fr w0 w bs D) (ho : op.op = .store t x y) (hx : a.eval x = .pointer (some ⟨g, k, none⟩)) [hb : At bs g i t' cs]
  (h : op.op = .store t x y → a.eval x = .pointer (some ⟨g, k, none⟩) → bs[i]? = some (g, t', cs) → wpList Tryz.prog ops Q (op :: rest) a w) : wpList Tryz.prog ops Q (op :: rest) a w := h ho hx hb.h
theorem aL {i g : Nat} {t t' : TypeId} {cs : Array Value} {x : Operand} [hs : StructIs t'] (ho : op.op = .load t' x) (hi : bs[i]? = some (g, t, cs)) (hx : a.eval x = .pointer (some ⟨g, 0, none⟩))
  (hF : Fr w0 w bs D) (hw : Region.wanted op (yielded ops a.tmps) = true) (hn : cs.size = hs.n) (h : wpList Tryz.prog ops Q rest (a.put op.dst (.agg cs)) w) : wpList Tryz.prog ops Q (op :: rest) a w :=
 wpL hw fun K hK => by
  obtain ⟨d, hu, hd⟩ := hs.d
  exact wp_val (exec_load_fr i t' x ho hF hi hx hu hd (by rw [hs.s, hn])) (hK _ _ h)
theorem aC {i k g : Nat} {t t' : TypeId} {cs : Array Value} {x : Operand} {v : Value} [hs : OneIs t'] (ho : op.op = .load t' x) (hi : bs[i]? = some (g, t, cs)) (hx : a.eval x = .pointer (some ⟨g, k, none⟩))
  (hF : Fr w0 w bs D) (hw : Region.wanted op (yielded ops a.tmps) = true) (hv : cs[k]? = some v) (h : wpList Tryz.prog ops Q rest (a.put op.dst v) w) : wpList Tryz.prog ops Q (op :: rest) a w :=
 wpL hw fun K hK => by
  obtain ⟨d, hu, hd⟩ := hs.d
  exact wp_val (exec_cell_fr i k t' x ho hF hi hx hv hu hd) (hK _ _ h)
theorem aP {i k g : Nat} (vs : List Value) {t t' : TypeId} {cs : Array Value} {x : Operand} [hs : StructIs t'] (ho : op.op = .load t' x) (hi : bs[i]? = some (g, t, cs)) (hx : a.eval x = .pointer (some ⟨g, k, none⟩))
  (hF : Fr w0 w bs D) (hw : Region.wanted op (yielded ops a.tmps) = true) (hv : ∀ j u, vs[j]? = some u → cs[k + j]? = some u) (hn : vs.length = hs.n) (h : wpList Tryz.prog ops Q rest (a.put op.dst (.agg vs.toArray)) w) : wpList Tryz.prog ops Q (op :: rest) a w :=
 wpL hw fun K hK => by
  obtain ⟨d, hu, hd⟩ := hs.d
  exact wp_val (exec_part_fr i k vs t' x ho hF hi hx hv hu hd (by rw [hs.s, hn])) (hK _ _ h)
theorem aS {i g : Nat} {t t' : TypeId} {cur cs : Array Value} {x y : Operand} [hs : StructIs t'] (ho : op.op = .store t' x y) (hi : bs[i]? = some (g, t, cur)) (hx : a.eval x = .pointer (some ⟨g, 0, none⟩))
  (hF : Fr w0 w bs D) (hw : Region.wanted op (yielded ops a.tmps) = true) (hy : a.eval y = .agg cs) (hn : cs.size = hs.n) (hn' : cur.size = hs.n) [h1 : Ones cs]
  (h : ∀ w', Fr w0 w' (bs.set i (g, t, cs)) D → wpList Tryz.prog ops Q rest (a.put op.dst undef) w') : wpList Tryz.prog ops Q (op :: rest) a w :=
 wpL hw fun K hK => wp_store_fr i t' x y ho hF hi hx hy (by omega) (by rw [hs.s, hn]) h1.h fun w' hF' => hK _ _ (h w' hF')
theorem aT {i k g : Nat} {t t' : TypeId} {cur : Array Value} {v : Value} {x y : Operand} [hs : OneIs t'] (ho : op.op = .store t' x y) (hi : bs[i]? = some (g, t, cur)) (hx : a.eval x = .pointer (some ⟨g, k, none⟩))
  (hF : Fr w0 w bs D) (hw : Region.wanted op (yielded ops a.tmps) = true) (hy : a.eval y = v) (hk : decide (k < cur.size) = true) (h1 : v.oneCell' = true)
  (h : ∀ w', Fr w0 w' (bs.set i (g, t, cur.setIfInBounds k v)) D → wpList Tryz.prog ops Q rest (a.put op.dst undef) w') : wpList Tryz.prog ops Q (op :: rest) a w :=
 wpL hw fun K hK => wp_cellstore_fr i k t' x y ho hF hi hx hy (by simpa using hk) hs.s h1 fun w' hF' => hK _ _ (h w' hF')
end
theorem nf {α : Type} : (∀ l : List α, [] ++ l = l) ∧ (∀ (a : α) (l m : List α), (a :: l) ++ m = a :: (l ++ m)) ∧ (∀ (a b : α) (l : List α), (a :: l).set 0 b = b :: l) ∧ (∀ (a b : α) (l : List α) (i : Nat), (a :: l).set (i + 1) b = a :: l.set i b) :=
 ⟨fun _ => rfl, fun _ _ _ => rfl, fun _ _ _ => rfl, fun _ _ _ _ => rfl⟩
inductive ResOk (w : World) (tmps : Array Value) : ResultVar → Value → Prop
 | tmp (t : Tmp) : ResOk w tmps (.tmp t) (tmps.getD t undef)
 | cell (p : Tmp) (ty : TypeId) (ad : Addr) (v : Value) (hp : tmps[p]?.getD undef = .pointer (some ad)) (hl : (loadVar ty ad).run Tryz.prog w = .ok v w) : ResOk w tmps (.cell p ty) v
theorem results2 {fn : Func} {r1 r2 : ResultVar} {v1 v2 : Value} {w : World} {tmps : Array Value} (h : fn.results = #[r1, r2]) (h1 : ResOk w tmps r1 v1) (h2 : ResOk w tmps r2 v2) :
  (results fn tmps).run Tryz.prog w = .ok (.tuple #[v1, v2]) w := by
 have ha : ∀ ad : Addr, (asAddr (.pointer (some ad))).run Tryz.prog w = .ok ad w := fun _ => rfl
 cases h1 <;> cases h2
 all_goals
  simp only [results, h]
  simp [Sem.run_bind, *]
theorem results3 {fn : Func} {r1 r2 r3 : ResultVar} {v1 v2 v3 : Value} {w : World} {tmps : Array Value} (h : fn.results = #[r1, r2, r3]) (h1 : ResOk w tmps r1 v1) (h2 : ResOk w tmps r2 v2) (h3 : ResOk w tmps r3 v3) :
  (results fn tmps).run Tryz.prog w = .ok (.tuple #[v1, v2, v3]) w := by
 have ha : ∀ ad : Addr, (asAddr (.pointer (some ad))).run Tryz.prog w = .ok ad w := fun _ => rfl
 cases h1 <;> cases h2 <;> cases h3
 all_goals
  simp only [results, h]
  simp [Sem.run_bind, *]
theorem results4 {fn : Func} {r1 r2 r3 r4 : ResultVar} {v1 v2 v3 v4 : Value} {w : World} {tmps : Array Value} (h : fn.results = #[r1, r2, r3, r4]) (h1 : ResOk w tmps r1 v1) (h2 : ResOk w tmps r2 v2) (h3 : ResOk w tmps r3 v3) (h4 : ResOk w tmps r4 v4) :
  (results fn tmps).run Tryz.prog w = .ok (.tuple #[v1, v2, v3, v4]) w := by
 have ha : ∀ ad : Addr, (asAddr (.pointer (some ad))).run Tryz.prog w = .ok ad w := fun _ => rfl
 cases h1 <;> cases h2 <;> cases h3 <;> cases h4
 all_goals
  simp only [results, h]
  simp [Sem.run_bind, *]
theorem results5 {fn : Func} {r1 r2 r3 r4 r5 : ResultVar} {v1 v2 v3 v4 v5 : Value} {w : World} {tmps : Array Value} (h : fn.results = #[r1, r2, r3, r4, r5]) (h1 : ResOk w tmps r1 v1) (h2 : ResOk w tmps r2 v2) (h3 : ResOk w tmps r3 v3) (h4 : ResOk w tmps r4 v4) (h5 : ResOk w tmps r5 v5) :
  (results fn tmps).run Tryz.prog w = .ok (.tuple #[v1, v2, v3, v4, v5]) w := by
 have ha : ∀ ad : Addr, (asAddr (.pointer (some ad))).run Tryz.prog w = .ok ad w := fun _ => rfl
 cases h1 <;> cases h2 <;> cases h3 <;> cases h4 <;> cases h5
 all_goals
  simp only [results, h]
  simp [Sem.run_bind, *]
theorem results1 {fn : Func} {r1 : ResultVar} {v1 : Value} {w : World} {tmps : Array Value} (h : fn.results = #[r1]) (h1 : ResOk w tmps r1 v1) : (results fn tmps).run Tryz.prog w = .ok v1 w := by
 have ha : ∀ ad : Addr, (asAddr (.pointer (some ad))).run Tryz.prog w = .ok ad w := fun _ => rfl
 cases h1
 all_goals
  simp only [results, h]
  simp [Sem.run_bind, *]
theorem res_cell {w0 w : World} {bs : List Bx} {D : World → Prop} (i : Nat) {p g : Nat} {t : TypeId} {cs : Array Value} [hs : StructIs t] {tmps : Array Value} (hF : Fr w0 w bs D) (hi : bs[i]? = some (g, t, cs)) (hp : tmps[p]?.getD undef = .pointer (some ⟨g, 0, none⟩)) (hn : cs.size = hs.n) :
  ResOk w tmps (.cell p t) (.agg cs) := by
 obtain ⟨d, hu, hd⟩ := hs.d
 exact .cell p t _ _ hp (run_load_fr i t hF hi hu hd (by rw [hs.s, hn]))
end Go.Proofs.YtnhjgocdepbajaaGreat
/- Regions that draw their order, over frames: what is loaded is taken first, stores go in whatever order. No condition of its own. -/
set_option linter.unusedVariables false
set_option linter.unusedSimpArgs false
set_option maxRecDepth 20000
namespace Go.Proofs.YtnhjgocdepbajaaGreat
namespace R
open Go.RowKit
section
variable {P : Program} {ops : Array Oper} {Q : Exit → Act → World → Prop} {md : Region.Mode} {S : Array Bool → World → Prop}
def wpAnyL (P : Program) (md : Region.Mode) (ops : Array Oper) (Q : Exit → Act → World → Prop) (S : Array Bool → World → Prop) : Nat → Array Bool → Act → World → Prop
 | 0, listed, a, w => Region.ready md ops listed = [] ∧ Q .normal a w
 | fuel + 1, listed, a, w =>
  (Region.ready md ops listed = [] → Q .normal a w) ∧
  ∀ i ∈ Region.ready md ops listed, wpOp P ops Q i (fun a' w' => S (listed.setIfInBounds i true) w' ∧ wpAnyL P md ops Q S fuel (listed.setIfInBounds i true) a' w') a w
theorem wpAny_of_L : ∀ (fuel : Nat) (listed : Array Bool) (a : Act) (w : World), wpAnyL P md ops Q S fuel listed a w → wpAny P md ops Q fuel listed a w
 | 0, _, _, _, h => h
 | fuel + 1, _, _, _, h => ⟨h.1, fun i hi => wpOp_mono (fun a' w' h' => wpAny_of_L fuel _ a' w' h'.2) (h.2 i hi)⟩
def Ahead (S : Array Bool → World → Prop) (ds : List Nat) (w : World) : Prop := ∃ L, (∀ d ∈ ds, L.getD d false = false) ∧ S L w
theorem wpAnyL_first {i : Nat} {oi : Oper} {v : Value} (ds : List Nat) (hi : ops[i]? = some oi) (hsel : ∀ (j : Nat) (o : Oper) cs b, ops[j]? = some o → o.op ≠ .select cs b)
  (hQ : ∀ c a w, Q (.panic c) (a.put oi.dst v) w → Q (.panic c) a w) (hdi : i ∉ ds)
  (hds : ∀ d ∈ ds, ∀ od, ops[d]? = some od → ∃ e ∈ od.after, Region.binds md e = true ∧ (e.on = i ∨ e.on ∈ ds))
  (hSi : ∀ L w, S (L.setIfInBounds i true) w ↔ S L w) :
  ∀ (fuel : Nat) (listed : Array Bool) (a : Act) (w : World), (∀ d ∈ ds, listed.getD d false = false) →
   (∀ j oj, ops[j]? = some oj → j ≠ i → listed.getD j true = false → (∀ e ∈ oj.after, Region.binds md e = true → e.on ≠ i) → oi.apart ops oj = true) →
   i ∈ Region.ready md ops listed → YieldsIf P ops (Ahead S ds) oi v a → S listed w →
   wpAnyL P md ops Q S fuel (listed.setIfInBounds i true) (a.put oi.dst v) w → wpAnyL P md ops Q S (fuel + 1) listed a w := by
 intro fuel
 induction fuel with
 | zero =>
  intro listed a w hd _ hr hy hS H
  refine ⟨fun h => (by rw [h] at hr; cases hr), fun j hj => ?_⟩
  by_cases hji : j = i
  ·
   subst hji
   exact hy.wpOp hi ⟨listed, hd, hS⟩ ⟨(hSi _ _).2 hS, H⟩
  ·
   have := ready_mono hj hji
   rw [H.1] at this
   cases this
 | succ fuel ih =>
  intro listed a w hd hfree hr hy hS H
  refine ⟨fun h => (by rw [h] at hr; cases hr), fun j hj => ?_⟩
  by_cases hji : j = i
  ·
   subst hji
   exact hy.wpOp hi ⟨listed, hd, hS⟩ ⟨(hSi _ _).2 hS, H⟩
  ·
   have h1 := H.2 j (ready_mono hj hji)
   obtain ⟨hjun, oj, hoj, hall⟩ := mem_ready.1 hj
   have hiun := (mem_ready.1 hr).1
   have hnot : ∀ e ∈ oj.after, Region.binds md e = true → e.on ≠ i := fun e he hb heq => by
    have h1 := hall e he hb
    have h0 := hiun
    rw [heq] at h1
    rcases Nat.lt_or_ge i listed.size with h' | h'
    ·
     simp [h'] at h0 h1; rw [h0] at h1; cases h1
    ·
     simp [Array.getElem?_eq_none h'] at h1
   have hjd : j ∉ ds := fun hm => by
    obtain ⟨e, he, hb, h2⟩ := hds j hm oj hoj
    rcases h2 with h2 | h2
    ·
     exact hnot e he hb h2
    ·
     have h3 := hall e he hb
     have h4 := hd _ h2
     rw [h3] at h4
     cases h4
   have h2 := wpOp_putIf hoj (hfree j oj hoj hji hjun hnot) (fun cs b => hsel i oi cs b hi) (fun cs b => hsel j oj cs b hoj) hQ hy h1
   have hfree' : ∀ k ok, ops[k]? = some ok → k ≠ i → (listed.setIfInBounds j true).getD k true = false →
     (∀ e ∈ ok.after, Region.binds md e = true → e.on ≠ i) → oi.apart ops ok = true := fun k ok hk hki hun hno => by
    refine hfree k ok hk hki ?_ hno
    by_cases hjk : j = k
    ·
     subst hjk; exact hjun
    ·
     rw [getD_set_ne true hjk] at hun; exact hun
   have hd' : ∀ d ∈ ds, (listed.setIfInBounds j true).getD d false = false := fun d hm => by
    rw [getD_set_ne false (fun e => hjd (by rw [e]; exact hm))]
    exact hd d hm
   refine wpOp_mono (fun a' w' h3 => ?_) h2
   have h4 : S (listed.setIfInBounds j true) w' := (hSi _ _).1 (by rw [Array.setIfInBounds_comm _ _ hji]; exact h3.2.1)
   refine ⟨h4, ih (listed.setIfInBounds j true) a' w' hd' hfree' (ready_mono hr (Ne.symm hji)) h3.1 h4 ?_⟩
   rw [Array.setIfInBounds_comm _ _ hji]
   exact h3.2.2
theorem wpAnyL_take {i : Nat} {oi : Oper} {v : Value} (ds : List Nat) {fuel : Nat} {listed : Array Bool} {a : Act} {w : World} (hi : ops[i]? = some oi)
  (hs : Region.noSelect ops = true) (hf : Region.free md ops listed i = true) (hr : (Region.ready md ops listed).contains i = true)
  (hQ : ∀ c a w, Q (.panic c) (a.put oi.dst v) w → Q (.panic c) a w)
  (hds : (!ds.contains i && ds.all (fun d => !listed.getD d false && (match ops[d]? with | some od => od.after.any (fun e => Region.binds md e && (e.on == i || ds.contains e.on)) | none => false))) = true)
  (hSi : ∀ L w, S (L.setIfInBounds i true) w ↔ S L w) (hy : YieldsIf P ops (Ahead S ds) oi v a) (hS : S listed w)
  (h : wpAnyL P md ops Q S fuel (listed.setIfInBounds i true) (a.put oi.dst v) w) : wpAnyL P md ops Q S (fuel + 1) listed a w := by
 simp only [Bool.and_eq_true, List.all_eq_true] at hds
 obtain ⟨h1, h2⟩ := hds
 refine wpAnyL_first ds hi (Region.noSelect_spec hs) hQ (by simpa using h1) (fun d hd od ho => ?_) hSi fuel listed a w (fun d hd => ?_) (Region.free_spec hi hf) (by simpa using hr) hy hS h
 ·
  have := (h2 d hd).2
  rw [ho] at this
  simp only [Array.any_eq_true, Bool.and_eq_true, Bool.or_eq_true, beq_iff_eq] at this
  obtain ⟨k, hk, h3, h4⟩ := this
  exact ⟨od.after[k], Array.getElem_mem hk, h3, by simpa using h4⟩
 ·
  simpa using (h2 d hd).1
def AllReadyL (P : Program) (md : Region.Mode) (ops : Array Oper) (Q : Exit → Act → World → Prop) (S : Array Bool → World → Prop) (fuel : Nat) (listed : Array Bool) (a : Act) (w : World) (rs : List Nat) : Prop :=
 ∀ i ∈ rs, wpOp P ops Q i (fun a' w' => S (listed.setIfInBounds i true) w' ∧ wpAnyL P md ops Q S fuel (listed.setIfInBounds i true) a' w') a w
theorem AllReadyL.nil {fuel : Nat} {listed : Array Bool} {a : Act} {w : World} : AllReadyL P md ops Q S fuel listed a w [] := fun _ h => by cases h
theorem AllReadyL.cons {fuel : Nat} {listed : Array Bool} {a : Act} {w : World} {i : Nat} {o : Oper} {rs : List Nat} (ho : ops[i]? = some o)
  (h : ∀ K' : Act → World → Prop, Shut (∀ a w, S (listed.setIfInBounds i true) w → (S (listed.setIfInBounds i true) w → wpAnyL P md ops Q S fuel (listed.setIfInBounds i true) a w) → K' a w) → if Region.wanted o (yielded ops a.tmps) = true then Oper.wp P o a w K' Q else K' (a.put o.dst undef) w)
  (hs : AllReadyL P md ops Q S fuel listed a w rs) : AllReadyL P md ops Q S fuel listed a w (i :: rs) := fun j hj => by
 rcases List.mem_cons.1 hj with rfl | hj
 ·
  exact wpOp_step ho (fun K' hK => h K' (fun a w hS hW => hK a w ⟨hS, hW hS⟩))
 ·
  exact hs j hj
theorem wpAnyL_ready {rs : List Nat} {fuel : Nat} {listed : Array Bool} {a : Act} {w : World} (hr : Region.ready md ops listed = rs) (hne : rs ≠ [])
  (h : AllReadyL P md ops Q S fuel listed a w rs) : wpAnyL P md ops Q S (fuel + 1) listed a w := ⟨fun h0 => absurd (hr ▸ h0) hne, hr ▸ h⟩
theorem wpAnyL_done {listed : Array Bool} {a : Act} {w : World} (hr : Region.ready md ops listed = []) (h : Q .normal a w) :
  ∀ fuel, wpAnyL P md ops Q S fuel listed a w
 | 0 => ⟨hr, h⟩
 | _ + 1 => ⟨fun _ => h, by rw [hr]; simp⟩
theorem wp_region_L {id : Nat} {a : Act} {w : World} (hm : P.follows .mixedOrders = true)
  (h : wpAnyL P .any ops Q S ops.size (Array.replicate ops.size false) a w.drew) : (Code.region id ops true).wp P Q a w :=
 wp_region_any hm (wpAny_of_L _ _ _ _ h)
theorem rdl (i : Nat) {o : Oper} {fuel : Nat} {listed : Array Bool} {a : Act} {w : World} (ho : ops[i]? = some o)
  (h : ∀ K' : Act → World → Prop, Shut (∀ a w, S (listed.setIfInBounds i true) w → (S (listed.setIfInBounds i true) w → wpAnyL P md ops Q S fuel (listed.setIfInBounds i true) a w) → K' a w) → if Region.wanted o (yielded ops a.tmps) = true then Oper.wp P o a w K' Q else K' (a.put o.dst undef) w)
  (hr : Region.ready md ops listed = [i] := by kernel_rfl) : wpAnyL P md ops Q S (fuel + 1) listed a w :=
 wpAnyL_ready hr (by simp) (AllReadyL.cons ho h AllReadyL.nil)
end
end R
open Go.RowKit S19 C17 R
def HoldA (ks : List Nat) (C : World → Prop) (L : Array Bool) (w : World) : Prop := (∀ k ∈ ks, L.getD k false = false) → C w
theorem HoldA.of {ks : List Nat} {C : World → Prop} {w : World} (h : C w) (L : Array Bool) : HoldA ks C L w := fun _ => h
theorem HoldA.void {ks : List Nat} {C : World → Prop} {w : World} {L : Array Bool} (k : Nat) (hk : ks.contains k = true) (hL : L.getD k false = true) : HoldA ks C L w := fun h => by
 have := h k (by simpa using hk)
 rw [hL] at this
 cases this
theorem HoldA.past {ks : List Nat} {C : World → Prop} {w : World} {L : Array Bool} (h : (ks.any fun k => L.getD k false) = true) : HoldA ks C L w := by
 obtain ⟨k, hk, hL⟩ := List.any_eq_true.1 h
 exact .void k (by simpa using hk) hL
theorem HoldA.flag {ks : List Nat} {i : Nat} {C : World → Prop} (hi : (ks.all fun k => k != i) = true) (L : Array Bool) (w : World) : HoldA ks C (L.setIfInBounds i true) w ↔ HoldA ks C L w := by
 have hne : ∀ k ∈ ks, i ≠ k := fun k hk e => by
  have := List.all_eq_true.1 hi k hk
  simp [e] at this
 unfold HoldA
 constructor
 ·
  intro h h0
  exact h fun k hk => by rw [getD_set_ne false (hne k hk)]; exact h0 k hk
 ·
  intro h h0
  exact h fun k hk => by have := h0 k hk; rw [getD_set_ne false (hne k hk)] at this; exact this
theorem held {ks ds : List Nat} {C : World → Prop} {w : World} (h : Ahead (HoldA ks C) ds w) (hk : (ks.all fun k => ds.contains k) = true) : C w := by
 obtain ⟨L, h1, h2⟩ := h
 exact h2 fun k hk2 => h1 k (by simpa using List.all_eq_true.1 hk k hk2)
section
variable {ops : Array Oper} {Q : Exit → Act → World → Prop} {md : Region.Mode} {ks : List Nat} {w0 w : World} {bs : List Bx} {D : World → Prop} {a : Act} {fuel : Nat} {listed : Array Bool} {oi : Oper} {v : Value}
abbrev Qn (Q : Exit → Act → World → Prop) : Exit → Act → World → Prop := fun e a w => e = .normal ∧ Q .normal a w
theorem tkw (i : Nat) (ds : List Nat) (hi : ops[i]? = some oi)
  (h : wpAnyL Tryz.prog md ops (Qn Q) (HoldA ks fun W => Fr w0 W bs D) fuel (listed.setIfInBounds i true) (a.put oi.dst v) w) (hw : Region.wanted oi (yielded ops a.tmps) = true := by rfl)
  (hv : ∀ w, Fr w0 w bs D → (execOp a.eval oi).run Tryz.prog w = .ok (.value v) w := by (intro w hSw; (try dsimp only); go_simp; all_goals (with_reducible rfl)))
  (hs : Region.noSelect ops = true := by kernel_rfl) (hf : Region.free md ops listed i = true := by kernel_rfl) (hr : (Region.ready md ops listed).contains i = true := by kernel_rfl)
  (hds : (!ds.contains i && ds.all (fun d => !listed.getD d false && (match ops[d]? with | some od => od.after.any (fun e => Region.binds md e && (e.on == i || ds.contains e.on)) | none => false))) = true := by kernel_rfl)
  (hki : (ks.all fun k => k != i) = true := by rfl) (hkd : (ks.all fun k => ds.contains k) = true := by rfl) (hFr : Fr w0 w bs D := by (first | assumption | exact Fr.sub (by assumption) (by repeat (first | exact List.Sublist.slnil | apply List.Sublist.cons_cons | apply List.Sublist.cons)))) : wpAnyL Tryz.prog md ops (Qn Q) (HoldA ks fun W => Fr w0 W bs D) (fuel + 1) listed a w :=
 wpAnyL_take (i := i) (v := v) ds hi hs hf hr (fun c a w h => nomatch h.1) hds (HoldA.flag hki) (Or.inl ⟨hw, fun W hW => hv W (held hW hkd)⟩) (.of hFr _) h
theorem tkf (i : Nat) (hi : ops[i]? = some oi)
  (h : wpAnyL Tryz.prog md ops (Qn Q) (HoldA ks fun W => Fr w0 W bs D) fuel (listed.setIfInBounds i true) (a.put oi.dst v) w) (hw : Region.wanted oi (yielded ops a.tmps) = true := by rfl)
  (hv : ∀ w, (execOp a.eval oi).run Tryz.prog w = .ok (.value v) w := by (intro w; go_simp; all_goals (with_reducible rfl)))
  (hs : Region.noSelect ops = true := by kernel_rfl) (hf : Region.free md ops listed i = true := by kernel_rfl) (hr : (Region.ready md ops listed).contains i = true := by kernel_rfl)
  (hki : (ks.all fun k => k != i) = true := by rfl) (hS : HoldA ks (fun W => Fr w0 W bs D) listed w := by (first | exact HoldA.of (by assumption) _ | exact HoldA.past rfl | exact HoldA.of (Fr.sub (by assumption) (by repeat (first | exact List.Sublist.slnil | apply List.Sublist.cons_cons | apply List.Sublist.cons))) _)) : wpAnyL Tryz.prog md ops (Qn Q) (HoldA ks fun W => Fr w0 W bs D) (fuel + 1) listed a w :=
 wpAnyL_take (i := i) (v := v) [] hi hs hf hr (fun c a w h => nomatch h.1) rfl (HoldA.flag hki) (Or.inl ⟨hw, fun W hW => hv W⟩) hS h
theorem tkn (i : Nat) (ds : List Nat) (hi : ops[i]? = some oi)
  (h : wpAnyL Tryz.prog md ops (Qn Q) (HoldA ks fun W => Fr w0 W bs D) fuel (listed.setIfInBounds i true) (a.put oi.dst undef) w) (hw : Region.wanted oi (yielded ops a.tmps) = false := by rfl)
  (hs : Region.noSelect ops = true := by kernel_rfl) (hf : Region.free md ops listed i = true := by kernel_rfl) (hr : (Region.ready md ops listed).contains i = true := by kernel_rfl)
  (hds : (!ds.contains i && ds.all (fun d => !listed.getD d false && (match ops[d]? with | some od => od.after.any (fun e => Region.binds md e && (e.on == i || ds.contains e.on)) | none => false))) = true := by kernel_rfl)
  (hki : (ks.all fun k => k != i) = true := by rfl) (hS : HoldA ks (fun W => Fr w0 W bs D) listed w := by (first | exact HoldA.of (by assumption) _ | exact HoldA.past rfl | exact HoldA.of (Fr.sub (by assumption) (by repeat (first | exact List.Sublist.slnil | apply List.Sublist.cons_cons | apply List.Sublist.cons))) _)) : wpAnyL Tryz.prog md ops (Qn Q) (HoldA ks fun W => Fr w0 W bs D) (fuel + 1) listed a w :=
 wpAnyL_take (i := i) (v := undef) ds hi hs hf hr (fun c a w h => nomatch h.1) hds (HoldA.flag hki) (Or.inr ⟨hw, rfl⟩) hS h
theorem tkb (i b : Nat) (ds : List Nat) {g : Nat} {t t' : TypeId} {cs : Array Value} {x : Operand} [hst : StructIs t'] (hi : ops[i]? = some oi) (ho : oi.op = .load t' x) (hb : bs[b]? = some (g, t, cs))
  (hx : a.eval x = .pointer (some ⟨g, 0, none⟩)) (hn : cs.size = hst.n)
  (h : wpAnyL Tryz.prog md ops (Qn Q) (HoldA ks fun W => Fr w0 W bs D) fuel (listed.setIfInBounds i true) (a.put oi.dst (.agg cs)) w) (hw : Region.wanted oi (yielded ops a.tmps) = true := by rfl)
  (hs : Region.noSelect ops = true := by kernel_rfl) (hf : Region.free md ops listed i = true := by kernel_rfl) (hr : (Region.ready md ops listed).contains i = true := by kernel_rfl)
  (hds : (!ds.contains i && ds.all (fun d => !listed.getD d false && (match ops[d]? with | some od => od.after.any (fun e => Region.binds md e && (e.on == i || ds.contains e.on)) | none => false))) = true := by kernel_rfl)
  (hki : (ks.all fun k => k != i) = true := by rfl) (hkd : (ks.all fun k => ds.contains k) = true := by rfl) (hFr : Fr w0 w bs D := by (first | assumption | exact Fr.sub (by assumption) (by repeat (first | exact List.Sublist.slnil | apply List.Sublist.cons_cons | apply List.Sublist.cons)))) : wpAnyL Tryz.prog md ops (Qn Q) (HoldA ks fun W => Fr w0 W bs D) (fuel + 1) listed a w := by
 obtain ⟨d, hu, hd⟩ := hst.d
 exact tkw i ds hi h hw (fun W hF => exec_load_fr b t' x ho hF hb hx hu hd (by rw [hst.s, hn])) hs hf hr hds hki hkd hFr
theorem tkc (i b : Nat) (ds : List Nat) {g k : Nat} {t t' : TypeId} {cs : Array Value} {x : Operand} [hst : OneIs t'] (hi : ops[i]? = some oi) (ho : oi.op = .load t' x) (hb : bs[b]? = some (g, t, cs))
  (hx : a.eval x = .pointer (some ⟨g, k, none⟩)) (hv : cs[k]? = some v)
  (h : wpAnyL Tryz.prog md ops (Qn Q) (HoldA ks fun W => Fr w0 W bs D) fuel (listed.setIfInBounds i true) (a.put oi.dst v) w) (hw : Region.wanted oi (yielded ops a.tmps) = true := by rfl)
  (hs : Region.noSelect ops = true := by kernel_rfl) (hf : Region.free md ops listed i = true := by kernel_rfl) (hr : (Region.ready md ops listed).contains i = true := by kernel_rfl)
  (hds : (!ds.contains i && ds.all (fun d => !listed.getD d false && (match ops[d]? with | some od => od.after.any (fun e => Region.binds md e && (e.on == i || ds.contains e.on)) | none => false))) = true := by kernel_rfl)
  (hki : (ks.all fun k => k != i) = true := by rfl) (hkd : (ks.all fun k => ds.contains k) = true := by rfl) (hFr : Fr w0 w bs D := by (first | assumption | exact Fr.sub (by assumption) (by repeat (first | exact List.Sublist.slnil | apply List.Sublist.cons_cons | apply List.Sublist.cons)))) : wpAnyL Tryz.prog md ops (Qn Q) (HoldA ks fun W => Fr w0 W bs D) (fuel + 1) listed a w := by
 obtain ⟨d, hu, hd⟩ := hst.d
 exact tkw i ds hi h hw (fun W hF => exec_cell_fr b k t' x ho hF hb hx hv hu hd) hs hf hr hds hki hkd hFr
theorem tkp (i b : Nat) (ds : List Nat) (vs : List Value) {g k : Nat} {t t' : TypeId} {cs : Array Value} {x : Operand} [hst : StructIs t'] (hi : ops[i]? = some oi) (ho : oi.op = .load t' x) (hb : bs[b]? = some (g, t, cs))
  (hx : a.eval x = .pointer (some ⟨g, k, none⟩)) (hv : ∀ j u, vs[j]? = some u → cs[k + j]? = some u) (hn : vs.length = hst.n)
  (h : wpAnyL Tryz.prog md ops (Qn Q) (HoldA ks fun W => Fr w0 W bs D) fuel (listed.setIfInBounds i true) (a.put oi.dst (.agg vs.toArray)) w) (hw : Region.wanted oi (yielded ops a.tmps) = true := by rfl)
  (hs : Region.noSelect ops = true := by kernel_rfl) (hf : Region.free md ops listed i = true := by kernel_rfl) (hr : (Region.ready md ops listed).contains i = true := by kernel_rfl)
  (hds : (!ds.contains i && ds.all (fun d => !listed.getD d false && (match ops[d]? with | some od => od.after.any (fun e => Region.binds md e && (e.on == i || ds.contains e.on)) | none => false))) = true := by kernel_rfl)
  (hki : (ks.all fun k => k != i) = true := by rfl) (hkd : (ks.all fun k => ds.contains k) = true := by rfl) (hFr : Fr w0 w bs D := by (first | assumption | exact Fr.sub (by assumption) (by repeat (first | exact List.Sublist.slnil | apply List.Sublist.cons_cons | apply List.Sublist.cons)))) : wpAnyL Tryz.prog md ops (Qn Q) (HoldA ks fun W => Fr w0 W bs D) (fuel + 1) listed a w := by
 obtain ⟨d, hu, hd⟩ := hst.d
 exact tkw i ds hi h hw (fun W hF => exec_part_fr b k vs t' x ho hF hb hx hv hu hd (by rw [hst.s, hn])) hs hf hr hds hki hkd hFr
theorem rdw {S : Array Bool → World → Prop} (i : Nat) {o : Oper} (ho : ops[i]? = some o)
  (h : ∀ K' : Act → World → Prop, Shut (∀ a w, S (listed.setIfInBounds i true) w → (S (listed.setIfInBounds i true) w → wpAnyL Tryz.prog md ops Q S fuel (listed.setIfInBounds i true) a w) → K' a w) → if Region.wanted o (yielded ops a.tmps) = true then Oper.wp Tryz.prog o a w K' Q else K' (a.put o.dst undef) w)
  (hr : Region.ready md ops listed = [i] := by kernel_rfl) : wpAnyL Tryz.prog md ops Q S (fuel + 1) listed a w := rdl i ho h hr
structure StoreAt (ops : Array Oper) (a : Act) (bs : List Bx) (i b : Nat) (y : Bx) : Prop where
 op : ∃ o t' x z cur, ops[i]? = some o ∧ o.op = .store t' x z ∧ o.dst = none ∧ Region.wanted o (yielded ops a.tmps) = true ∧ bs[b]? = some (y.1, y.2.1, cur) ∧ a.eval x = .pointer (some ⟨y.1, 0, none⟩) ∧ a.eval z = .agg y.2.2 ∧ cur.size = y.2.2.size ∧
  (Tryz.prog.info? t').map (·.size) = some y.2.2.size ∧ y.2.2.all (·.oneCell') = true
theorem StoreAt.mk_ (i b : Nat) {g : Nat} {t t' : TypeId} {cur cs : Array Value} {x y : Operand} {o : Oper} [hst : StructIs t'] (hi : ops[i]? = some o) (ho : o.op = .store t' x y) (hd : o.dst = none) (hb : bs[b]? = some (g, t, cur)) (hx : a.eval x = .pointer (some ⟨g, 0, none⟩)) (hy : a.eval y = .agg cs)
  (hw : Region.wanted o (yielded ops a.tmps) = true) (hn : cs.size = hst.n) (hn' : cur.size = hst.n) [h1 : Ones cs] : StoreAt ops a bs i b (g, t, cs) :=
 ⟨o, t', x, y, cur, hi, ho, hd, hw, hb, hx, hy, hn'.trans hn.symm, by rw [hst.s, ← hn], h1.h⟩
theorem StoreAt.run {i b : Nat} {y : Bx} {K : Act → World → Prop} (h : StoreAt ops a bs i b y) (hF : Fr w0 w bs D) (hK : ∀ w', Fr w0 w' (bs.set b y) D → K a w') : wpOp Tryz.prog ops Q i K a w := by
 obtain ⟨o, t', x, u, cur, h1, h2, h3, h4, h5, h6, h7, h8, h9, h10⟩ := h.op
 refine wpOp_step h1 fun K' hK' => ?_
 rw [if_pos h4]
 refine wp_store_fr b t' x u h2 hF h5 h6 h7 h8 h9 h10 fun w' hF' => hK' _ _ ?_
 rw [h3]
 exact hK w' hF'
theorem st1 {S : Array Bool → World → Prop} {i b : Nat} {y : Bx} (hF : Fr w0 w bs D) (h : StoreAt ops a bs i b y) (hr : Region.ready md ops listed = [i])
  (hS : ∀ w', Fr w0 w' (bs.set b y) D → S (listed.setIfInBounds i true) w')
  (hK : ∀ w', Fr w0 w' (bs.set b y) D → S (listed.setIfInBounds i true) w' → wpAnyL Tryz.prog md ops Q S fuel (listed.setIfInBounds i true) a w') : wpAnyL Tryz.prog md ops Q S (fuel + 1) listed a w := by
 refine ⟨fun h0 => (by rw [hr] at h0; cases h0), fun j hj => ?_⟩
 rw [hr] at hj
 obtain rfl : j = i := by simpa using hj
 exact h.run hF fun w' hF' => ⟨hS w' hF', hK w' hF' (hS w' hF')⟩
theorem stw {D' : World → Prop} {bs0 : List Bx} (i b : Nat) {g : Nat} {t t' : TypeId} {cur cs : Array Value} {x y : Operand} {o : Oper} [hst : StructIs t'] (hF : Fr w0 w bs D) (hi : ops[i]? = some o) (ho : o.op = .store t' x y) (hd : o.dst = none) (hb : bs[b]? = some (g, t, cur)) (hx : a.eval x = .pointer (some ⟨g, 0, none⟩)) (hy : a.eval y = .agg cs)
  (hn : cs.size = hst.n) (hn' : cur.size = hst.n) [h1 : Ones cs]
  (hK : ∀ w', Fr w0 w' (bs.set b (g, t, cs)) D → wpAnyL Tryz.prog md ops (Qn Q) (HoldA ks fun W => Fr w0 W bs0 D') fuel (listed.setIfInBounds i true) a w')
  (hw : Region.wanted o (yielded ops a.tmps) = true := by rfl) (hr : Region.ready md ops listed = [i] := by kernel_rfl) (hS : ∀ W, Fr w0 W (bs.set b (g, t, cs)) D → HoldA ks (fun W => Fr w0 W bs0 D') (listed.setIfInBounds i true) W := by (intro W hW; first | exact HoldA.past rfl | exact HoldA.of (Fr.sub hW (by repeat (first | exact List.Sublist.slnil | apply List.Sublist.cons_cons | apply List.Sublist.cons))) _)) : wpAnyL Tryz.prog md ops (Qn Q) (HoldA ks fun W => Fr w0 W bs0 D') (fuel + 1) listed a w :=
 st1 hF (StoreAt.mk_ i b hi ho hd hb hx hy hw hn hn') hr hS (fun w' h _ => hK w' h)
theorem stc {D' : World → Prop} {bs0 : List Bx} (i b : Nat) {g k : Nat} {t t' : TypeId} {cur : Array Value} {v : Value} {x y : Operand} {o : Oper} [hst : OneIs t'] (hF : Fr w0 w bs D) (hi : ops[i]? = some o) (ho : o.op = .store t' x y) (hd : o.dst = none) (hb : bs[b]? = some (g, t, cur)) (hx : a.eval x = .pointer (some ⟨g, k, none⟩)) (hy : a.eval y = v)
  (hk : decide (k < cur.size) = true) (h1 : v.oneCell' = true)
  (hK : ∀ w', Fr w0 w' (bs.set b (g, t, cur.setIfInBounds k v)) D → wpAnyL Tryz.prog md ops (Qn Q) (HoldA ks fun W => Fr w0 W bs0 D') fuel (listed.setIfInBounds i true) a w')
  (hw : Region.wanted o (yielded ops a.tmps) = true := by rfl) (hr : Region.ready md ops listed = [i] := by kernel_rfl) (hS : ∀ W, Fr w0 W (bs.set b (g, t, cur.setIfInBounds k v)) D → HoldA ks (fun W => Fr w0 W bs0 D') (listed.setIfInBounds i true) W := by (intro W hW; first | exact HoldA.past rfl | exact HoldA.of (Fr.sub hW (by repeat (first | exact List.Sublist.slnil | apply List.Sublist.cons_cons | apply List.Sublist.cons))) _)) : wpAnyL Tryz.prog md ops (Qn Q) (HoldA ks fun W => Fr w0 W bs0 D') (fuel + 1) listed a w := by
 refine ⟨fun h0 => (by rw [hr] at h0; cases h0), fun j hj => ?_⟩
 rw [hr] at hj
 obtain rfl : j = i := by simpa using hj
 refine wpOp_step hi fun K' hK' => ?_
 rw [if_pos hw]
 refine wp_cellstore_fr b k t' x y ho hF hb hx hy (by simpa using hk) hst.s h1 fun w' hF' => hK' _ _ ?_
 rw [hd]
 exact ⟨hS w' hF', hK w' hF'⟩
theorem dnw {S : Array Bool → World → Prop} (h : Q .normal a w) (hr : Region.ready md ops listed = [] := by kernel_rfl) : wpAnyL Tryz.prog md ops (Qn Q) S fuel listed a w := wpAnyL_done hr ⟨rfl, h⟩ fuel
theorem rgw {id : Nat} (ks : List Nat) {bs' : List Bx} (bs : List Bx) (hF : Fr w0 w bs' D) (hs : bs.Sublist bs') (h : Fr w0 w.drew bs' D → wpAnyL Tryz.prog .any ops (Qn Q) (HoldA ks fun W => Fr w0 W bs D) ops.size (Array.replicate ops.size false) a w.drew) :
  (Code.region id ops true).wp Tryz.prog Q a w :=
 Code.wp_mono (fun e a' w' h => by rw [h.1]; exact h.2) (wp_region_L (by kernel_rfl) (h hF.drew))
end
end Go.Proofs.YtnhjgocdepbajaaGreat
/- countersignref5.Nonce and Until. No condition of its own. -/
set_option linter.unusedVariables false
set_option linter.unusedSimpArgs false
set_option maxRecDepth 20000
namespace Go.Proofs.YtnhjgocdepbajaaGreat
open Go.RowKit S19 C17 R
theorem rnonce_walk (s : Sr) (w : World) (hn : -2000000000 ≤ s.n ∧ s.n ≤ 2000000000) :
  Calls Tryz.prog 83 #[.agg s.arr] w fun e w' => e = .returned (.tuple #[.int .i64 (drawK s), .agg (drawS s).arr, .bool (drawB s)]) ∧ Below w.heap.size w w' := by
 have hF : Fr w w [] (fun _ => True) := Fr.nil w
 obtain ⟨hn0, hn1⟩ := hn
 rw [sr_arr]
 by_cases h : s.n ≤ 1073741824
 ·
  have hb : drawB s = true := by simpa [drawB] using h
  have hs : (drawS s).arr = #[.int .i64 (s.n + 1), .int .i64 s.conn, .int .i64 s.now] := by simp [drawS, hb, Sr.arr]
  have hk : drawK s = s.n := by simp [drawK, hb]
  rw [hb, hs, hk]
  clear hb hs hk
  generalize s.n = n at *
  go_enter Tryz.func83, Tryz.ntmps83
  go_wp2_with (first
   | go_skip
   | (refine aA rfl rfl hF ?_; clear hF; intro gg ww hF; simp only [nf] at hF)
   | (refine aB rfl rfl hF rfl ?_; clear hF; intro gg ww hF; simp only [nf] at hF)
   | (refine iL (t := 3) hF rfl rfl fun ho hx hb => ?_; refine aC (v := .int _ _) ho hb hx hF rfl rfl ?_; clear ho hx hb)
   | (refine iL hF rfl rfl fun ho hx hb => ?_; (first | refine aL ho hb hx hF rfl rfl ?_ | refine aC (v := .slice _ _ _) ho hb hx hF rfl rfl ?_ | refine aC (v := .string _) ho hb hx hF rfl rfl ?_ | refine aC (v := .bool _) ho hb hx hF rfl rfl ?_); clear ho hx hb)
   | (refine iS hF rfl rfl fun ho hx hb => ?_; (first | refine aS ho hb hx hF rfl rfl rfl rfl ?_ | refine aT (v := .int _ _) ho hb hx hF rfl rfl rfl rfl ?_ | refine aT (v := .slice _ _ _) ho hb hx hF rfl rfl rfl rfl ?_ | refine aT (v := .bool _) ho hb hx hF rfl rfl rfl rfl ?_); clear ho hx hb hF; intro ww hF; simp only [nf] at hF)
   )
  (try simp only [List.nil_append, List.cons_append, List.set_cons_zero, List.set_cons_succ, List.setIfInBounds_toArray] at hF)
  refine rgw [3] _ hF (List.Sublist.refl _) fun hF => ?_
  refine tkf 0 rfl ?_
  try simp only [nrm, Act.put]
  refine tkb 1 0 [3] rfl rfl rfl rfl rfl ?_
  try simp only [nrm, Act.put]
  refine tkf 2 rfl ?_
  try simp only [nrm, Act.put]
  refine stw 3 1 hF rfl rfl rfl rfl rfl rfl rfl rfl ?_
  clear hF; intro ww hF; simp only [nf] at hF
  try simp only [nrm, Act.put]
  refine tkf 4 rfl ?_
  try simp only [nrm, Act.put]
  refine dnw ?_
  go_wp2_with (first
   | go_skip
   | (refine aA rfl rfl hF ?_; clear hF; intro gg ww hF; simp only [nf] at hF)
   | (refine aB rfl rfl hF rfl ?_; clear hF; intro gg ww hF; simp only [nf] at hF)
   | (refine iL (t := 3) hF rfl rfl fun ho hx hb => ?_; refine aC (v := .int _ _) ho hb hx hF rfl rfl ?_; clear ho hx hb)
   | (refine iL hF rfl rfl fun ho hx hb => ?_; (first | refine aL ho hb hx hF rfl rfl ?_ | refine aC (v := .slice _ _ _) ho hb hx hF rfl rfl ?_ | refine aC (v := .string _) ho hb hx hF rfl rfl ?_ | refine aC (v := .bool _) ho hb hx hF rfl rfl ?_); clear ho hx hb)
   | (refine iS hF rfl rfl fun ho hx hb => ?_; (first | refine aS ho hb hx hF rfl rfl rfl rfl ?_ | refine aT (v := .int _ _) ho hb hx hF rfl rfl rfl rfl ?_ | refine aT (v := .slice _ _ _) ho hb hx hF rfl rfl rfl rfl ?_ | refine aT (v := .bool _) ho hb hx hF rfl rfl rfl rfl ?_); clear ho hx hb hF; intro ww hF; simp only [nf] at hF)
   )
  refine bodyPost_ret (results3 Tryz.results83 (.tmp _) (res_cell 1 hF rfl rfl rfl) (.tmp _)) rfl ⟨rfl, hF.below⟩
 ·
  have hb : drawB s = false := by simpa [drawB] using h
  have hs : (drawS s).arr = #[.int .i64 s.n, .int .i64 s.conn, .int .i64 s.now] := by simp [drawS, hb, Sr.arr]
  have hk : drawK s = 0 := by simp [drawK, hb]
  rw [hb, hs, hk]
  clear hb hs hk
  generalize s.n = n at *
  go_enter Tryz.func83, Tryz.ntmps83
  go_wp2_with (first
   | go_skip
   | (refine aA rfl rfl hF ?_; clear hF; intro gg ww hF; simp only [nf] at hF)
   | (refine aB rfl rfl hF rfl ?_; clear hF; intro gg ww hF; simp only [nf] at hF)
   | (refine iL (t := 3) hF rfl rfl fun ho hx hb => ?_; refine aC (v := .int _ _) ho hb hx hF rfl rfl ?_; clear ho hx hb)
   | (refine iL hF rfl rfl fun ho hx hb => ?_; (first | refine aL ho hb hx hF rfl rfl ?_ | refine aC (v := .slice _ _ _) ho hb hx hF rfl rfl ?_ | refine aC (v := .string _) ho hb hx hF rfl rfl ?_ | refine aC (v := .bool _) ho hb hx hF rfl rfl ?_); clear ho hx hb)
   | (refine iS hF rfl rfl fun ho hx hb => ?_; (first | refine aS ho hb hx hF rfl rfl rfl rfl ?_ | refine aT (v := .int _ _) ho hb hx hF rfl rfl rfl rfl ?_ | refine aT (v := .slice _ _ _) ho hb hx hF rfl rfl rfl rfl ?_ | refine aT (v := .bool _) ho hb hx hF rfl rfl rfl rfl ?_); clear ho hx hb hF; intro ww hF; simp only [nf] at hF)
   )
  (try simp only [List.nil_append, List.cons_append, List.set_cons_zero, List.set_cons_succ, List.setIfInBounds_toArray] at hF)
  refine rgw [2] _ hF (List.Sublist.refl _) fun hF => ?_
  refine tkb 0 0 [2] rfl rfl rfl rfl rfl ?_
  try simp only [nrm, Act.put]
  refine tkf 1 rfl ?_
  try simp only [nrm, Act.put]
  refine stw 2 1 hF rfl rfl rfl rfl rfl rfl rfl rfl ?_
  clear hF; intro ww hF; simp only [nf] at hF
  try simp only [nrm, Act.put]
  refine tkf 3 rfl ?_
  try simp only [nrm, Act.put]
  refine dnw ?_
  go_wp2_with (first
   | go_skip
   | (refine aA rfl rfl hF ?_; clear hF; intro gg ww hF; simp only [nf] at hF)
   | (refine aB rfl rfl hF rfl ?_; clear hF; intro gg ww hF; simp only [nf] at hF)
   | (refine iL (t := 3) hF rfl rfl fun ho hx hb => ?_; refine aC (v := .int _ _) ho hb hx hF rfl rfl ?_; clear ho hx hb)
   | (refine iL hF rfl rfl fun ho hx hb => ?_; (first | refine aL ho hb hx hF rfl rfl ?_ | refine aC (v := .slice _ _ _) ho hb hx hF rfl rfl ?_ | refine aC (v := .string _) ho hb hx hF rfl rfl ?_ | refine aC (v := .bool _) ho hb hx hF rfl rfl ?_); clear ho hx hb)
   | (refine iS hF rfl rfl fun ho hx hb => ?_; (first | refine aS ho hb hx hF rfl rfl rfl rfl ?_ | refine aT (v := .int _ _) ho hb hx hF rfl rfl rfl rfl ?_ | refine aT (v := .slice _ _ _) ho hb hx hF rfl rfl rfl rfl ?_ | refine aT (v := .bool _) ho hb hx hF rfl rfl rfl rfl ?_); clear ho hx hb hF; intro ww hF; simp only [nf] at hF)
   )
  refine bodyPost_ret (results3 Tryz.results83 (.tmp _) (res_cell 1 hF rfl rfl rfl) (.tmp _)) rfl ⟨rfl, hF.below⟩
theorem runtil_walk (now life : Int) (w : World) (h0 : 0 ≤ now) (h1 : now ≤ 1099511627776) (h2 : life ≤ 1000000) :
  Calls Tryz.prog 52 #[.int .i64 now, .int .i64 life] w fun e w' => e = .returned (.int .i64 (untilI now life)) ∧ w = w' := by
 obtain ⟨m, hm⟩ : ∃ m, max life 0 = m := ⟨_, rfl⟩
 have hm0 : 0 ≤ m ∧ m ≤ 1000000 := by omega
 by_cases h : 1099511627776 - now < m
 ·
  have hv : untilI now life = 1099511627776 := by rw [untilI, hm, if_pos h]
  rw [hv]
  go_enter Tryz.func52, Tryz.ntmps52
  go_wp2_with fail
  go_ret
  exact ⟨rfl, rfl⟩
 ·
  have hv : untilI now life = now + m := by rw [untilI, hm, if_neg h]
  rw [hv]
  go_enter Tryz.func52, Tryz.ntmps52
  go_wp2_with fail
  go_ret
  exact ⟨rfl, rfl⟩
end Go.Proofs.YtnhjgocdepbajaaGreat
/- Rows of records beside frames; countersignref22.found. No condition of its own. -/
set_option linter.unusedVariables false
set_option linter.unusedSimpArgs false
set_option maxRecDepth 20000
namespace Go.Proofs.YtnhjgocdepbajaaGreat
open Go.RowKit S19 C17 R
theorem kp_recs {w : World} {bs : List Bx} {A : Option Addr} {c : Nat} {rs : List Rc} (h : RecsAt w A c rs) (hn : ∀ ad, A = some ad → ∀ x ∈ bs, x.1 ≠ ad.block) : Kp w bs (fun W => RecsAt W A c rs) := fun w' hs hk => by
 refine ⟨h.1, h.2.1, h.2.2.1, fun h0 => ?_⟩
 obtain ⟨ad, e, hb, hc⟩ := h.2.2.2 h0
 exact ⟨ad, e, by omega, fun j u hu => (World.cell?_of_block (by rw [block_of_add]; exact hk _ hb (hn ad e))).trans (hc j u hu)⟩
theorem kp_start {w : World} {A : Option Addr} {c : Nat} {rs : List Rc} (h : RecsAt w A c rs) : Kp w [] (fun W => RecsAt W A c rs) := kp_recs h (fun _ _ _ hx => by simp at hx)
theorem Fr.rows {w0 w w' : World} {bs : List Bx} {D : World → Prop} {A0 A : Option Addr} {c0 c : Nat} {rs0 rs : List Rc} (h : Fr w0 w bs D) (hb : Below w.heap.size w w') (hr : RecsAt w' A c rs) (hn : NewRow w A0 A c0 c rs0 rs)
  (h0 : ∀ W, D W → RecsAt W A0 c0 rs0) : Fr w0 w' bs (fun W => D W ∧ RecsAt W A c rs) := by
 have hc := h.call hb
 rcases hn with ⟨rfl, rfl, rfl⟩ | hn
 ·
  exact hc.weak fun W hW => ⟨hW, h0 W hW⟩
 ·
  exact hc.grow (kp_recs hr fun ad e x hx hxe => by
   have := hn ad e
   have := (h.mem hx).2
   omega)
def StR (b : Bs) (cl : List Cl) (CA : Option Addr) (cc : Nat) (UA : Option Addr) (uc : Nat) (RA : Option Addr) (rc : Nat) (rs rs' : List Rc) (w w' : World) (v : Value) : Prop :=
 ∃ RA' rc', v = .agg (stA b.nm b.key CA cl.length cc UA b.us.length uc RA' rs'.length rc') ∧ RecsAt w' RA' rc' rs' ∧ NewRow w RA RA' rc rc' rs rs' ∧ Below w.heap.size w w'
theorem StR.same {b : Bs} {cl : List Cl} {CA : Option Addr} {cc : Nat} {UA : Option Addr} {uc : Nat} {RA : Option Addr} {rc : Nat} {rs : List Rc} {w w' : World} (h : RecsAt w RA rc rs) (hb : Below w.heap.size w w') :
  StR b cl CA cc UA uc RA rc rs rs w w' (.agg (stA b.nm b.key CA cl.length cc UA b.us.length uc RA rs.length rc)) := ⟨RA, rc, rfl, h.below hb, .inl ⟨rfl, rfl, rfl⟩, hb⟩
def FoundR (b : Bs) (cl : List Cl) (CA : Option Addr) (cc : Nat) (UA : Option Addr) (uc : Nat) (RA : Option Addr) (rc : Nat) (rs : List Rc) (x : List Rc × Option Rc) (w : World) (e : Ending) (w' : World) : Prop :=
 ∃ v, e = .returned (.tuple #[v, .agg (x.2.getD Rc.none).arr, .bool x.2.isSome]) ∧ StR b cl CA cc UA uc RA rc rs x.1 w w' v
set_option maxHeartbeats 1000000 in
theorem rfound_walk (b : Bs) (rs : List Rc) (now kind n key : Int) (cl : List Cl) (CA : Option Addr) (cc : Nat) (UA : Option Addr) (uc : Nat) (RA : Option Addr) (rc : Nat) (w : World) (hr : RecsAt w RA rc rs) :
  Calls Tryz.prog 55 #[.agg (stA b.nm b.key CA cl.length cc UA b.us.length uc RA rs.length rc), .int .i64 now, .int .i64 kind, .int .i64 n, .int .i64 key] w
   (FoundR b cl CA cc UA uc RA rc rs (foundP rs now kind n key) w) := by
 have hF := Fr.start w (kp_start hr)
 have HR := Lib.hid hr
 have cf := Lib.hid (fun W h => rfind_walk rs RA rc now kind key W h)
 cases hf : findO rs now kind key with
 | none =>
  have hv : Hid (foundP rs now kind n key = (rs, none)) := by show _ = _; rw [foundP, hf]
  rw [hf] at cf
  clear hr hf
  go_enter Tryz.func55, Tryz.ntmps55
  go_wp2_with (first
   | go_skip
   | (refine aA rfl rfl hF ?_; clear hF; intro gg ww hF; simp only [nf] at hF)
   | (refine aB rfl rfl hF rfl ?_; clear hF; intro gg ww hF; simp only [nf] at hF)
   | (refine iL (t := 3) hF rfl rfl fun ho hx hb => ?_; refine aC (v := .int _ _) ho hb hx hF rfl rfl ?_; clear ho hx hb)
   | (refine iL hF rfl rfl fun ho hx hb => ?_; (first | refine aL ho hb hx hF rfl rfl ?_ | refine aC (v := .slice _ _ _) ho hb hx hF rfl rfl ?_ | refine aC (v := .string _) ho hb hx hF rfl rfl ?_ | refine aC (v := .bool _) ho hb hx hF rfl rfl ?_); clear ho hx hb)
   | (refine iS hF rfl rfl fun ho hx hb => ?_; (first | refine aS ho hb hx hF rfl rfl rfl rfl ?_ | refine aT (v := .int _ _) ho hb hx hF rfl rfl rfl rfl ?_ | refine aT (v := .slice _ _ _) ho hb hx hF rfl rfl rfl rfl ?_ | refine aT (v := .bool _) ho hb hx hF rfl rfl rfl rfl ?_); clear ho hx hb hF; intro ww hF; simp only [nf] at hF)
   )
  refine (cf.out _ hF.data).mono ?_
  rintro _ w1 ⟨rfl, hbn⟩
  replace hF := hF.call hbn
  clear hbn
  go_wp2_with (first
   | go_skip
   | (refine aA rfl rfl hF ?_; clear hF; intro gg ww hF; simp only [nf] at hF)
   | (refine aB rfl rfl hF rfl ?_; clear hF; intro gg ww hF; simp only [nf] at hF)
   | (refine iL (t := 3) hF rfl rfl fun ho hx hb => ?_; refine aC (v := .int _ _) ho hb hx hF rfl rfl ?_; clear ho hx hb)
   | (refine iL hF rfl rfl fun ho hx hb => ?_; (first | refine aL ho hb hx hF rfl rfl ?_ | refine aC (v := .slice _ _ _) ho hb hx hF rfl rfl ?_ | refine aC (v := .string _) ho hb hx hF rfl rfl ?_ | refine aC (v := .bool _) ho hb hx hF rfl rfl ?_); clear ho hx hb)
   | (refine iS hF rfl rfl fun ho hx hb => ?_; (first | refine aS ho hb hx hF rfl rfl rfl rfl ?_ | refine aT (v := .int _ _) ho hb hx hF rfl rfl rfl rfl ?_ | refine aT (v := .slice _ _ _) ho hb hx hF rfl rfl rfl rfl ?_ | refine aT (v := .bool _) ho hb hx hF rfl rfl rfl rfl ?_); clear ho hx hb hF; intro ww hF; simp only [nf] at hF)
   )
  refine bodyPost_ret (results3 Tryz.results55 (res_cell 1 hF rfl rfl rfl) (res_cell 2 hF rfl rfl rfl) (.tmp _)) rfl ⟨_, by rw [hv.out]; rfl, ?_⟩
  rw [hv.out]
  show StR b cl CA cc UA uc RA rc rs rs w _ _
  exact StR.same HR.out hF.below
 | some r =>
  obtain ⟨r0, r1, r2, u, c4, r5, r6, r7, q1, q2, q3, q4, q5, q6, q7⟩ := r
  by_cases hc : c4 = n
  ·
   have hne : (c4 != n) = false := by simpa using hc
   cases u with
   | false =>
    have hv : Hid (foundP rs now kind n key = (rs, some ⟨r0, r1, r2, false, c4, r5, r6, r7, q1, q2, q3, q4, q5, q6, q7⟩)) := by show _ = _; rw [foundP, hf]; simp only [hc, ne_eq, not_true_eq_false, if_false, Bool.false_eq_true]
    rw [hf] at cf
    clear hr hf hc
    go_enter Tryz.func55, Tryz.ntmps55
    go_wp2_with (first
     | go_skip
     | (refine aA rfl rfl hF ?_; clear hF; intro gg ww hF; simp only [nf] at hF)
     | (refine aB rfl rfl hF rfl ?_; clear hF; intro gg ww hF; simp only [nf] at hF)
     | (refine iL (t := 3) hF rfl rfl fun ho hx hb => ?_; refine aC (v := .int _ _) ho hb hx hF rfl rfl ?_; clear ho hx hb)
     | (refine iL hF rfl rfl fun ho hx hb => ?_; (first | refine aL ho hb hx hF rfl rfl ?_ | refine aC (v := .slice _ _ _) ho hb hx hF rfl rfl ?_ | refine aC (v := .string _) ho hb hx hF rfl rfl ?_ | refine aC (v := .bool _) ho hb hx hF rfl rfl ?_); clear ho hx hb)
     | (refine iS hF rfl rfl fun ho hx hb => ?_; (first | refine aS ho hb hx hF rfl rfl rfl rfl ?_ | refine aT (v := .int _ _) ho hb hx hF rfl rfl rfl rfl ?_ | refine aT (v := .slice _ _ _) ho hb hx hF rfl rfl rfl rfl ?_ | refine aT (v := .bool _) ho hb hx hF rfl rfl rfl rfl ?_); clear ho hx hb hF; intro ww hF; simp only [nf] at hF)
     )
    refine (cf.out _ hF.data).mono ?_
    rintro _ w1 ⟨rfl, hbn⟩
    replace hF := hF.call hbn
    clear hbn
    go_wp2_with (first
     | go_skip
     | (refine aA rfl rfl hF ?_; clear hF; intro gg ww hF; simp only [nf] at hF)
     | (refine aB rfl rfl hF rfl ?_; clear hF; intro gg ww hF; simp only [nf] at hF)
     | (refine iL (t := 3) hF rfl rfl fun ho hx hb => ?_; refine aC (v := .int _ _) ho hb hx hF rfl rfl ?_; clear ho hx hb)
     | (refine iL hF rfl rfl fun ho hx hb => ?_; (first | refine aL ho hb hx hF rfl rfl ?_ | refine aC (v := .slice _ _ _) ho hb hx hF rfl rfl ?_ | refine aC (v := .string _) ho hb hx hF rfl rfl ?_ | refine aC (v := .bool _) ho hb hx hF rfl rfl ?_); clear ho hx hb)
     | (refine iS hF rfl rfl fun ho hx hb => ?_; (first | refine aS ho hb hx hF rfl rfl rfl rfl ?_ | refine aT (v := .int _ _) ho hb hx hF rfl rfl rfl rfl ?_ | refine aT (v := .slice _ _ _) ho hb hx hF rfl rfl rfl rfl ?_ | refine aT (v := .bool _) ho hb hx hF rfl rfl rfl rfl ?_); clear ho hx hb hF; intro ww hF; simp only [nf] at hF)
     )
    (try simp only [List.nil_append, List.cons_append, List.set_cons_zero, List.set_cons_succ, List.setIfInBounds_toArray] at hF)
    refine rgw [] [_, _] hF (.cons_cons _ (.cons _ (.cons _ (.cons_cons _ .slnil)))) fun hF => ?_
    refine tkb 0 0 [] rfl rfl rfl rfl rfl ?_
    try simp only [nrm, Act.put]
    refine tkb 1 1 [] rfl rfl rfl rfl rfl ?_
    try simp only [nrm, Act.put]
    refine stw 2 1 hF rfl rfl rfl rfl rfl rfl rfl rfl ?_
    clear hF; intro ww hF; simp only [nf] at hF
    try simp only [nrm, Act.put]
    refine stw 3 2 hF rfl rfl rfl rfl rfl rfl rfl rfl ?_
    clear hF; intro ww hF; simp only [nf] at hF
    try simp only [nrm, Act.put]
    refine tkf 4 rfl ?_
    try simp only [nrm, Act.put]
    refine dnw ?_
    go_wp2_with (first
     | go_skip
     | (refine aA rfl rfl hF ?_; clear hF; intro gg ww hF; simp only [nf] at hF)
     | (refine aB rfl rfl hF rfl ?_; clear hF; intro gg ww hF; simp only [nf] at hF)
     | (refine iL (t := 3) hF rfl rfl fun ho hx hb => ?_; refine aC (v := .int _ _) ho hb hx hF rfl rfl ?_; clear ho hx hb)
     | (refine iL hF rfl rfl fun ho hx hb => ?_; (first | refine aL ho hb hx hF rfl rfl ?_ | refine aC (v := .slice _ _ _) ho hb hx hF rfl rfl ?_ | refine aC (v := .string _) ho hb hx hF rfl rfl ?_ | refine aC (v := .bool _) ho hb hx hF rfl rfl ?_); clear ho hx hb)
     | (refine iS hF rfl rfl fun ho hx hb => ?_; (first | refine aS ho hb hx hF rfl rfl rfl rfl ?_ | refine aT (v := .int _ _) ho hb hx hF rfl rfl rfl rfl ?_ | refine aT (v := .slice _ _ _) ho hb hx hF rfl rfl rfl rfl ?_ | refine aT (v := .bool _) ho hb hx hF rfl rfl rfl rfl ?_); clear ho hx hb hF; intro ww hF; simp only [nf] at hF)
     )
    refine bodyPost_ret (results3 Tryz.results55 (res_cell 1 hF rfl rfl rfl) (res_cell 2 hF rfl rfl rfl) (.tmp _)) rfl ⟨_, by rw [hv.out]; rfl, ?_⟩
    rw [hv.out]
    show StR b cl CA cc UA uc RA rc rs rs w _ _
    exact StR.same HR.out hF.below
   | true =>
    have hv : Hid (foundP rs now kind n key = (revokeL r7 rs, none)) := by show _ = _; rw [foundP, hf]; simp only [hc, ne_eq, not_true_eq_false, if_false, if_true]
    rw [hf] at cf
    have ck := Lib.hid (fun W h => rrevoke_walk rs RA rc r7 W h)
    have hm := hr.2.1
    clear hr hf hc
    go_enter Tryz.func55, Tryz.ntmps55
    go_wp2_with (first
     | go_skip
     | (refine aA rfl rfl hF ?_; clear hF; intro gg ww hF; simp only [nf] at hF)
     | (refine aB rfl rfl hF rfl ?_; clear hF; intro gg ww hF; simp only [nf] at hF)
     | (refine iL (t := 3) hF rfl rfl fun ho hx hb => ?_; refine aC (v := .int _ _) ho hb hx hF rfl rfl ?_; clear ho hx hb)
     | (refine iL hF rfl rfl fun ho hx hb => ?_; (first | refine aL ho hb hx hF rfl rfl ?_ | refine aC (v := .slice _ _ _) ho hb hx hF rfl rfl ?_ | refine aC (v := .string _) ho hb hx hF rfl rfl ?_ | refine aC (v := .bool _) ho hb hx hF rfl rfl ?_); clear ho hx hb)
     | (refine iS hF rfl rfl fun ho hx hb => ?_; (first | refine aS ho hb hx hF rfl rfl rfl rfl ?_ | refine aT (v := .int _ _) ho hb hx hF rfl rfl rfl rfl ?_ | refine aT (v := .slice _ _ _) ho hb hx hF rfl rfl rfl rfl ?_ | refine aT (v := .bool _) ho hb hx hF rfl rfl rfl rfl ?_); clear ho hx hb hF; intro ww hF; simp only [nf] at hF)
     )
    refine (cf.out _ hF.data).mono ?_
    rintro _ w1 ⟨rfl, hbn⟩
    replace hF := hF.call hbn
    clear hbn
    go_wp2_with (first
     | go_skip
     | (refine aA rfl rfl hF ?_; clear hF; intro gg ww hF; simp only [nf] at hF)
     | (refine aB rfl rfl hF rfl ?_; clear hF; intro gg ww hF; simp only [nf] at hF)
     | (refine iL (t := 3) hF rfl rfl fun ho hx hb => ?_; refine aC (v := .int _ _) ho hb hx hF rfl rfl ?_; clear ho hx hb)
     | (refine iL hF rfl rfl fun ho hx hb => ?_; (first | refine aL ho hb hx hF rfl rfl ?_ | refine aC (v := .slice _ _ _) ho hb hx hF rfl rfl ?_ | refine aC (v := .string _) ho hb hx hF rfl rfl ?_ | refine aC (v := .bool _) ho hb hx hF rfl rfl ?_); clear ho hx hb)
     | (refine iS hF rfl rfl fun ho hx hb => ?_; (first | refine aS ho hb hx hF rfl rfl rfl rfl ?_ | refine aT (v := .int _ _) ho hb hx hF rfl rfl rfl rfl ?_ | refine aT (v := .slice _ _ _) ho hb hx hF rfl rfl rfl rfl ?_ | refine aT (v := .bool _) ho hb hx hF rfl rfl rfl rfl ?_); clear ho hx hb hF; intro ww hF; simp only [nf] at hF)
     )
    refine (ck.out _ hF.data).mono ?_
    rintro _ w2 ⟨v, rfl, hown, hbn⟩
    have hlen : (revokeL r7 rs).length ≤ rs.length := List.length_filter_le _ _
    obtain ⟨A2, c2, rfl, hr2⟩ := RecsAt.own hown (by omega)
    have hnr := own_new hown (Nat.le_refl _)
    have hge := hF.below.size
    replace hF := hF.rows hbn hr2 (A0 := RA) (c0 := rc) (rs0 := rs) (.inr hnr) (fun _ h => h)
    clear hbn hown hr2 ck hlen
    go_wp2_with (first
     | go_skip
     | (refine aA rfl rfl hF ?_; clear hF; intro gg ww hF; simp only [nf] at hF)
     | (refine aB rfl rfl hF rfl ?_; clear hF; intro gg ww hF; simp only [nf] at hF)
     | (refine iL (t := 3) hF rfl rfl fun ho hx hb => ?_; refine aC (v := .int _ _) ho hb hx hF rfl rfl ?_; clear ho hx hb)
     | (refine iL hF rfl rfl fun ho hx hb => ?_; (first | refine aL ho hb hx hF rfl rfl ?_ | refine aC (v := .slice _ _ _) ho hb hx hF rfl rfl ?_ | refine aC (v := .string _) ho hb hx hF rfl rfl ?_ | refine aC (v := .bool _) ho hb hx hF rfl rfl ?_); clear ho hx hb)
     | (refine iS hF rfl rfl fun ho hx hb => ?_; (first | refine aS ho hb hx hF rfl rfl rfl rfl ?_ | refine aT (v := .int _ _) ho hb hx hF rfl rfl rfl rfl ?_ | refine aT (v := .slice _ _ _) ho hb hx hF rfl rfl rfl rfl ?_ | refine aT (v := .bool _) ho hb hx hF rfl rfl rfl rfl ?_); clear ho hx hb hF; intro ww hF; simp only [nf] at hF)
     )
    refine bodyPost_ret (results3 Tryz.results55 (res_cell 1 hF rfl rfl rfl) (res_cell 2 hF rfl rfl rfl) (.tmp _)) rfl ⟨_, by rw [hv.out]; rfl, ?_⟩
    rw [hv.out]
    exact ⟨A2, c2, rfl, hF.data.2, .inr fun ad e => by have := hnr ad e; omega, hF.below⟩
  ·
   have hv : Hid (foundP rs now kind n key = (rs, none)) := by show _ = _; rw [foundP, hf]; simp only [ne_eq, hc, not_false_eq_true, if_true]
   have hne : (c4 != n) = true := by simpa using hc
   rw [hf] at cf
   clear hr hf hc
   go_enter Tryz.func55, Tryz.ntmps55
   go_wp2_with (first
    | go_skip
    | (refine aA rfl rfl hF ?_; clear hF; intro gg ww hF; simp only [nf] at hF)
    | (refine aB rfl rfl hF rfl ?_; clear hF; intro gg ww hF; simp only [nf] at hF)
    | (refine iL (t := 3) hF rfl rfl fun ho hx hb => ?_; refine aC (v := .int _ _) ho hb hx hF rfl rfl ?_; clear ho hx hb)
    | (refine iL hF rfl rfl fun ho hx hb => ?_; (first | refine aL ho hb hx hF rfl rfl ?_ | refine aC (v := .slice _ _ _) ho hb hx hF rfl rfl ?_ | refine aC (v := .string _) ho hb hx hF rfl rfl ?_ | refine aC (v := .bool _) ho hb hx hF rfl rfl ?_); clear ho hx hb)
    | (refine iS hF rfl rfl fun ho hx hb => ?_; (first | refine aS ho hb hx hF rfl rfl rfl rfl ?_ | refine aT (v := .int _ _) ho hb hx hF rfl rfl rfl rfl ?_ | refine aT (v := .slice _ _ _) ho hb hx hF rfl rfl rfl rfl ?_ | refine aT (v := .bool _) ho hb hx hF rfl rfl rfl rfl ?_); clear ho hx hb hF; intro ww hF; simp only [nf] at hF)
    )
   refine (cf.out _ hF.data).mono ?_
   rintro _ w1 ⟨rfl, hbn⟩
   replace hF := hF.call hbn
   clear hbn
   go_wp2_with (first
    | go_skip
    | (refine aA rfl rfl hF ?_; clear hF; intro gg ww hF; simp only [nf] at hF)
    | (refine aB rfl rfl hF rfl ?_; clear hF; intro gg ww hF; simp only [nf] at hF)
    | (refine iL (t := 3) hF rfl rfl fun ho hx hb => ?_; refine aC (v := .int _ _) ho hb hx hF rfl rfl ?_; clear ho hx hb)
    | (refine iL hF rfl rfl fun ho hx hb => ?_; (first | refine aL ho hb hx hF rfl rfl ?_ | refine aC (v := .slice _ _ _) ho hb hx hF rfl rfl ?_ | refine aC (v := .string _) ho hb hx hF rfl rfl ?_ | refine aC (v := .bool _) ho hb hx hF rfl rfl ?_); clear ho hx hb)
    | (refine iS hF rfl rfl fun ho hx hb => ?_; (first | refine aS ho hb hx hF rfl rfl rfl rfl ?_ | refine aT (v := .int _ _) ho hb hx hF rfl rfl rfl rfl ?_ | refine aT (v := .slice _ _ _) ho hb hx hF rfl rfl rfl rfl ?_ | refine aT (v := .bool _) ho hb hx hF rfl rfl rfl rfl ?_); clear ho hx hb hF; intro ww hF; simp only [nf] at hF)
    )
   refine bodyPost_ret (results3 Tryz.results55 (res_cell 1 hF rfl rfl rfl) (res_cell 2 hF rfl rfl rfl) (.tmp _)) rfl ⟨_, by rw [hv.out]; rfl, ?_⟩
   rw [hv.out]
   show StR b cl CA cc UA uc RA rc rs rs w _ _
   exact StR.same HR.out hF.below
end Go.Proofs.YtnhjgocdepbajaaGreat

/- A row that grows by append as a variable of a frame; the plain law of what a client drops. No condition. -/
import Derived.Test.YtnhjgocdepbajaaGreatYu
set_option linter.unusedVariables false
set_option linter.unusedSimpArgs false
set_option maxRecDepth 20000
namespace Go.Proofs.YtnhjgocdepbajaaGreat
open Go.RowKit S19 C17 R
theorem Fr.moved {w0 w w' : World} {bs : List Bx} {D : World → Prop} (h : Fr w0 w bs D) {i g g' : Nat} {t t' : TypeId} {cs cs' : Array Value} (hi : bs[i]? = some (g, t, cs)) (hb : w.grownBy w' (some g)) (hg : g = g' ∨ g' = w.heap.size) (hn : Blk w' g' t' cs') : Fr w0 w' (bs.set i (g', t', cs')) D := by
 have hgb := h.blk i _ hi
 have hlt := hgb.2.lt
 have hle := h.below.size
 have hset : ∀ j x, (bs.set i (g', t', cs'))[j]? = some x → (j = i ∧ x = (g', t', cs')) ∨ (j ≠ i ∧ bs[j]? = some x) := fun j x e => by
  rw [List.getElem?_set] at e
  split at e
  ·
   rename_i hij
   split at e
   ·
    injection e with e; exact .inl ⟨hij.symm, e.symm⟩
   ·
    simp at e
  ·
   rename_i hij; exact .inr ⟨fun e => hij e.symm, e⟩
 have hne : ∀ j x, j ≠ i → bs[j]? = some x → x.1 ≠ g' := fun j x hj e => by
  rcases hg with hg | hg
  ·
   rw [← hg]; exact h.ne j i x _ e hi hj
  ·
   have := (h.blk j x e).2.lt; omega
 refine ⟨h.below.grown hb h.below.size (fun q hq => by injection hq with hq; rw [← hq]; exact hgb.1), fun j x e => ?_, fun j k x y ej ek hjk => ?_, h.kp.step hb.size (fun k hl hno => hb.block k hl (fun e => ?_)) (fun x' hx' => ?_)⟩
 ·
  rcases hset j x e with ⟨rfl, rfl⟩ | ⟨hj, e2⟩
  ·
   refine ⟨?_, hn⟩
   rcases hg with hg | hg
   ·
    rw [← hg]; exact hgb.1
   ·
    show w0.heap.size ≤ g'; omega
  ·
   exact ⟨(h.blk j x e2).1, (h.blk j x e2).2.grown hb (fun e3 => by injection e3 with e3; exact h.ne j i x _ e2 hi hj e3)⟩
 ·
  rcases hset j x ej with ⟨rfl, rfl⟩ | ⟨hj, e1⟩ <;> rcases hset k y ek with ⟨rfl, rfl⟩ | ⟨hk, e2⟩
  ·
   exact absurd rfl hjk
  ·
   exact fun e => hne k y hk e2 e.symm
  ·
   exact fun e => hne j x hj e1 e
  ·
   exact h.ne j k x y e1 e2 hjk
 ·
  injection e with e
  exact hno (g, t, cs) (List.mem_iff_getElem?.2 ⟨i, hi⟩) e.symm
 ·
  obtain ⟨j, hj⟩ := List.mem_iff_getElem?.1 hx'
  rcases hset j x' hj with ⟨rfl, rfl⟩ | ⟨_, e2⟩
  ·
   rcases hg with hg | hg
   ·
    exact .inl ⟨(g, t, cs), List.mem_iff_getElem?.2 ⟨_, hi⟩, hg⟩
   ·
    exact .inr (by show w.heap.size ≤ g'; omega)
  ·
   exact .inl ⟨x', List.mem_iff_getElem?.2 ⟨j, e2⟩, rfl⟩
section
variable {w0 w : World} {bs : List Bx} {D : World → Prop} {ops : Array Oper} {rest : List Oper} {op : Oper} {a : Act} {K : Act → World → Prop} {Q : Exit → Act → World → Prop}
theorem wp_ap (i b : Nat) (t : TypeId) {e : TypeId} (fo : TypeInfo) (z : Value) (bytes : Nat) {g gb n cap m : Nat} {cs news : Array Value} {xs : List Value} {s x : Operand} (hF : Fr w0 w bs D)
  (ho : op.op = .call { callee := .builtin .append, args := #[s, x], argTypes := #[t, t] }) (ht : Tryz.prog.underlying t = some (.slice e)) (hi : Tryz.prog.info? e = some fo) (hz : fo.zero = some z) (hsize : fo.size = 1) (hby : fo.bytes = bytes) (hzs : z.cells.size = 1) (hbm : bytes ≤ 1000)
  (hbi : bs[i]? = some (g, e, cs)) (hs : a.eval s = .slice (some ⟨g, 0, none⟩) n cap) (hcs : cs.size = cap) (hxs : cs.toList.take n = xs) (hnc : n ≤ cap) (hcm : cap ≤ maxLen) (hn : n ≤ 1000000)
  (hbb : bs[b]? = some (gb, e, news)) (hx : a.eval x = .slice (some ⟨gb, 0, none⟩) m m) (hnews : news.size = m) (hm : 0 < m) (hm2 : m ≤ 1000000) (h1 : Ones news)
  (h : ∀ g' cs' cap' w', cs'.size = cap' → cs'.toList.take (n + m) = xs ++ news.toList → n + m ≤ cap' → cap' ≤ maxLen → Fr w0 w' (bs.set i (g', e, cs')) D → K (a.put op.dst (.slice (some ⟨g', 0, none⟩) (n + m) cap')) w') : op.wp Tryz.prog a w K Q := by
 have hown : w.ownsRow 0 e 1 (.slice (some ⟨g, 0, none⟩) n cap) n xs := by
  refine ⟨by rw [← hxs, List.length_take, Array.length_toList, hcs]; omega, .inr ⟨g, cap, cs, rfl, Nat.zero_le _, (hF.blk i _ hbi).2, hnc, hcm, by omega, by rw [Nat.mul_one]; exact hxs⟩⟩
 refine wp_append_lies w s x t ho 0 e fo z 1 bytes ht hi hz hsize hby hzs (by decide) _ n xs hs hown ⟨gb, 0, none⟩ m m news.toList hx (by rw [Array.length_toList, hnews]; omega) (World.news_of_block (hF.blk b _ hbb).2) (by have := Array.all_eq_true_iff_forall_mem.1 h1.h; exact fun u hu => this u (by simpa using hu)) hm (by unfold maxLen; omega) (by have : (n + m) * bytes ≤ 2000000 * 1000 := Nat.mul_le_mul (by omega) hbm; omega) (Nat.zero_le _) w.heap.size rfl fun g' cap' w' hown' hg hat hlt => ?_
 rcases hown'.2 with ⟨h0, _⟩ | ⟨g2, cap2, cur, h0, _, hh, hc1, hc2, hc3, hc4⟩
 ·
  simp at h0
 ·
  simp only [Value.slice.injEq, Option.some.injEq, Addr.mk.injEq, and_true, true_and] at h0
  obtain ⟨rfl, rfl⟩ := h0
  refine h g' cur cap' w' (by omega) (by rw [Nat.mul_one] at hc4; exact hc4) hc1 hc2 (hF.moved hbi hg ?_ hh)
  rcases hat with hat | hat
  ·
   left
   simpa [Value.ownBlock] using hat
  ·
   exact .inr hat
theorem aAp (i b : Nat) (t : TypeId) {e : TypeId} (fo : TypeInfo) (z : Value) (bytes : Nat) {g gb n cap m : Nat} {cs news : Array Value} {xs : List Value} {s x : Operand} (hw : Region.wanted op (yielded ops a.tmps) = true) (hF : Fr w0 w bs D)
  (ho : op.op = .call { callee := .builtin .append, args := #[s, x], argTypes := #[t, t] }) (ht : Tryz.prog.underlying t = some (.slice e)) (hi : Tryz.prog.info? e = some fo) (hz : fo.zero = some z) (hsize : fo.size = 1) (hby : fo.bytes = bytes) (hzs : z.cells.size = 1) (hbm : bytes ≤ 1000)
  (hbi : bs[i]? = some (g, e, cs)) (hs : a.eval s = .slice (some ⟨g, 0, none⟩) n cap) (hcs : cs.size = cap) (hxs : cs.toList.take n = xs) (hnc : n ≤ cap) (hcm : cap ≤ maxLen) (hn : n ≤ 1000000)
  (hbb : bs[b]? = some (gb, e, news)) (hx : a.eval x = .slice (some ⟨gb, 0, none⟩) m m) (hnews : news.size = m) (hm : 0 < m) (hm2 : m ≤ 1000000) (h1 : Ones news)
  (h : ∀ g' cs' cap' w', cs'.size = cap' → cs'.toList.take (n + m) = xs ++ news.toList → n + m ≤ cap' → cap' ≤ maxLen → Fr w0 w' (bs.set i (g', e, cs')) D → wpList Tryz.prog ops Q rest (a.put op.dst (.slice (some ⟨g', 0, none⟩) (n + m) cap')) w') : wpList Tryz.prog ops Q (op :: rest) a w :=
 wpL hw fun K hK => wp_ap i b t fo z bytes hF ho ht hi hz hsize hby hzs hbm hbi hs hcs hxs hnc hcm hn hbb hx hnews hm hm2 h1 fun g' cs' cap' w' e1 e2 e3 e4 hF' => hK _ _ (h g' cs' cap' w' e1 e2 e3 e4 hF')
theorem exec_spot {i g k : Nat} {t t' : TypeId} {cs : Array Value} {x : Operand} {v : Value} [hst : OneIs t'] (hF : Fr w0 w bs D) (ho : op.op = .load t' x) (hb : bs[i]? = some (g, t, cs)) (hx : a.eval x = .pointer (some ⟨g, k, none⟩)) (hv : cs[k]? = some v) :
  (execOp a.eval op).run Tryz.prog w = .ok (.value v) w := by
 obtain ⟨d, hu, hd⟩ := hst.d
 exact exec_cell_fr i k t' x ho hF hb hx hv hu hd
end
theorem Lane.callX {ops : Array Oper} {Q : Exit → Act → World → Prop} {ks : List Nat} {w0 : World} {bs0 : List Bx} {D0 : World → Prop} {bs : List Bx} {D : World → Prop} {fs : List FreeD} {n : Nat} {l : Array Bool} {a : Act} {X : Type}
  (c : Nat) (f : FuncId) (vs : Array Value) (v : X → Value) (D' : X → World → Prop) {o : Oper} (ho : ops[c]? = some o) (hg : o.guard = none)
  (hrun : ∀ s : List (Option Nat), s.length = fs.length → ∀ W, (execOp (lnA fs s a).eval o).run Tryz.prog W = .ok (.enter f vs) W)
  (hcall : ∀ W bx, Fr w0 W bx D → Calls Tryz.prog f vs W fun e w' => ∃ x, e = .returned (v x) ∧ Fr w0 w' bx (D' x))
  (hS : ∀ W bx, Fr w0 W (bs ++ bx) D → Fr w0 W bs0 D0) (hS' : ∀ x W bx, Fr w0 W (bs ++ bx) (D' x) → Fr w0 W bs0 D0)
  (H : ∀ x, Lane ops Q ks w0 bs0 D0 bs (D' x) fs n (l.setIfInBounds c true) (a.put o.dst (v x)))
  (hready : ((pats fs.length).all fun p => (Region.ready .any ops (lnP fs p l)).contains c && (Region.ready .any ops (lnP fs p l)).all fun i => i == c || pendB fs p i) = true := by kernel_rfl)
  (hcf : (fs.all fun f => f.i != c) = true := by rfl) (hdf : (fs.all fun f => o.dst != some f.d) = true := by rfl) : Lane ops Q ks w0 bs0 D0 bs D fs (n + 1) l a :=
 Lane.gen (X := X) c (fun _ => bs) D' v ho hS hS' hready hcf hdf (fun s hs W hF K hK => by
  rw [if_pos (by simp [Region.wanted, hg])]
  unfold Oper.wp
  rw [hrun s hs W]
  refine (hcall W _ hF).mono fun e w' h => ?_
  obtain ⟨x, rfl, hF'⟩ := h
  exact hK x w' hF') H
theorem Lane.take {ops : Array Oper} {Q : Exit → Act → World → Prop} {ks : List Nat} {w0 : World} {bs0 : List Bx} {D0 : World → Prop} {bs : List Bx} {D : World → Prop} {fs : List FreeD} {n : Nat} {l : Array Bool} {a : Act}
  (c : Nat) (v : Value) {o : Oper} (ho : ops[c]? = some o) (hg : o.guard = none)
  (hrun : ∀ s : List (Option Nat), s.length = fs.length → ∀ W, (execOp (lnA fs s a).eval o).run Tryz.prog W = .ok (.value v) W)
  (H : Lane ops Q ks w0 bs0 D0 bs D fs n (l.setIfInBounds c true) (a.put o.dst v))
  (hS : ∀ W bx, Fr w0 W (bs ++ bx) D → Fr w0 W bs0 D0 := by (intro W bx h; first | exact Fr.sub (Fr.front h) (by repeat (first | exact List.Sublist.slnil | apply List.Sublist.cons_cons | apply List.Sublist.cons)) | exact (Fr.sub (Fr.front h) (by repeat (first | exact List.Sublist.slnil | apply List.Sublist.cons_cons | apply List.Sublist.cons))).weak fun _ _ => trivial))
  (hsel : Region.noSelect ops = true := by kernel_rfl)
  (hready : ((pats fs.length).all fun p => Region.free .any ops (lnP fs p l) c && (Region.ready .any ops (lnP fs p l)).contains c) = true := by kernel_rfl)
  (hki : (ks.all fun k => k != c) = true := by rfl) (hcf : (fs.all fun f => f.i != c) = true := by rfl) (hdf : (fs.all fun f => o.dst != some f.d) = true := by rfl) : Lane ops Q ks w0 bs0 D0 bs D fs (n + 1) l a := by
 intro hok hap s hs W hF
 have hr := List.all_eq_true.1 hready (isS s) (by have := pats_all (isS s); rwa [List.length_map, hs] at this)
 rw [Bool.and_eq_true] at hr
 have h := H hok hap s hs W hF
 rw [← lnP_set fs _ _ _ hcf, ← lnA_put fs s a _ _ hdf] at h
 rw [show n + 1 + lnN s = (n + lnN s) + 1 by omega]
 exact wpAnyL_take (i := c) (v := v) [] ho hsel hr.1 hr.2 (fun c a w h => nomatch h.1) rfl (HoldA.flag hki) (Or.inl ⟨by simp [Region.wanted, hg], fun W _ => hrun s hs W⟩) (.of (hS W _ hF) _) h
def tA (k : Int) (p : Nat) : Rc := recOf 5 (104 + 2 * (p : Int)) 300 false k 1 0 103 (wtS sOp)
def tR (k : Int) (p : Nat) (b : Bool) : Rc := recOf 6 (105 + 2 * (p : Int)) 600 b k 1 0 103 (wtS sOp)
def RN (k : Int) (q : Nat) : List Rc := recS 1 :: recU k 1 :: ((List.range q).flatMap (fun p => [tA k p, tR k p true]) ++ [tA k q, tR k q false])
def srN (q : Nat) : Sr := ⟨106 + 2 * (q : Int), 1, 0⟩
def gN (k : Int) : Nat → Gr
 | 0 => grN k 1
 | q + 1 => ⟨106 + 2 * (q : Int), 107 + 2 * (q : Int), tR k q false⟩
def keyR (q : Nat) : List Value := (List.range (2 * q + 2)).map fun h : Nat => .int .i64 (104 + (h : Int))
theorem gn_access (k : Int) (q : Nat) : (gN k q).access = 104 + 2 * (q : Int) := by
 cases q with
 | zero => rfl
 | succ q => show 106 + 2 * (q : Int) = 104 + 2 * ((q + 1 : Nat) : Int); omega
theorem gn_refresh (k : Int) (q : Nat) : (gN k q).refresh = 105 + 2 * (q : Int) := by
 cases q with
 | zero => rfl
 | succ q => show 107 + 2 * (q : Int) = 105 + 2 * ((q + 1 : Nat) : Int); omega
theorem keyR_succ (k : Int) (q : Nat) : keyR q ++ [.int .i64 (gN k (q + 1)).access, .int .i64 (gN k (q + 1)).refresh] = keyR (q + 1) := by
 rw [gn_access, gn_refresh, keyR, keyR, show 2 * (q + 1) + 2 = (2 * q + 2) + 1 + 1 by omega, List.range_succ (n := 2 * q + 2 + 1), List.range_succ (n := 2 * q + 2), List.map_append, List.map_append, List.append_assoc]
 refine congrArg _ ?_
 show [Value.int .i64 _, Value.int .i64 _] = [Value.int .i64 _, Value.int .i64 _]
 rw [show (104 : Int) + 2 * ((q + 1 : Nat) : Int) = 104 + ((2 * q + 2 : Nat) : Int) by omega, show (105 : Int) + 2 * ((q + 1 : Nat) : Int) = 104 + ((2 * q + 2 + 1 : Nat) : Int) by omega]
theorem keyR_at (q h : Nat) (hh : h < 2 * q + 2) : (keyR q)[h]? = some (.int .i64 (104 + (h : Int))) := by
 rw [keyR, List.getElem?_map, List.getElem?_range hh]
 rfl
theorem ev_renew (k : Int) (q : Nat) (hq : q < 3) : renewP (RN k q) (srN q) k (gN k q).refresh ⟨#[]⟩ = (RN k (q + 1), srN (q + 1), gN k (q + 1), 0) := by
 have hf : foundP (RN k q) 0 6 k (gN k q).refresh = (RN k q, some (tR k q false)) := by
  have hfo : findO (RN k q) 0 6 (gN k q).refresh = some (tR k q false) := by
   rcases q with _ | _ | _ | q
   ·
    kernel_rfl
   ·
    kernel_rfl
   ·
    kernel_rfl
   ·
    omega
  rw [foundP, hfo]
  simp only [show (tR k q false).client = k from rfl, ne_eq, not_true_eq_false, if_false, show (tR k q false).used = false from rfl, Bool.false_eq_true]
 rw [renewP, show (srN q).now = 0 from rfl, hf]
 simp only [show (⟨#[]⟩ : ByteArray).data.toList = [] from rfl, ne_eq, not_true_eq_false, false_and, if_false, if_true]
 have h0 : issuedP (RN k 0) (srN 0) (tR k 0 false) (tR k 0 false).s3 = (RN k 1, srN 1, gN k 1, 0) := by kernel_rfl
 have h1 : issuedP (RN k 1) (srN 1) (tR k 1 false) (tR k 1 false).s3 = (RN k 2, srN 2, gN k 2, 0) := by kernel_rfl
 have h2 : issuedP (RN k 2) (srN 2) (tR k 2 false) (tR k 2 false).s3 = (RN k 3, srN 3, gN k 3, 0) := by kernel_rfl
 rcases q with _ | _ | _ | q
 ·
  exact h0
 ·
  exact h1
 ·
  exact h2
 ·
  omega
def tokN (k : Int) (q h : Nat) : Rc := if h % 2 = 0 then tA k (h / 2) else tR k (h / 2) (decide (h / 2 < q))
theorem tok_at (k : Int) (q h : Nat) (hq : q < 4) (hh : h < 2 * q + 2) : tokenO (RN k q) 0 (104 + (h : Int)) = some (tokN k q h) := by
 have h8 : h < 8 := by omega
 rcases q with _ | _ | _ | _ | q <;> (try omega)
 all_goals
  rcases h with _ | _ | _ | _ | _ | _ | _ | _ | h <;> (try omega)
  all_goals rfl
theorem tok_client (k : Int) (q h : Nat) : (tokN k q h).client = k ∧ (tokN k q h).fam = 103 := by
 rw [tokN]
 split <;> exact ⟨rfl, rfl⟩
theorem revoke_all (k : Int) (q : Nat) (hq : q < 4) : revokeL 103 (RN k q) = [recS 1, recU k 1] := by
 rcases q with _ | _ | _ | _ | q <;> (try omega)
 all_goals rfl
def dropN (k j : Int) (q : Nat) : List Rc := if k = j then [recS 1, recU k 1] else RN k q
theorem ev_drop (k j : Int) (q h : Nat) (hq : q < 4) (hh : h < 2 * q + 2) : dropL (RN k q) 0 j (104 + (h : Int)) = dropN k j q := by
 obtain ⟨e1, e2⟩ := tok_client k q h
 rw [dropL, tok_at k q h hq hh]
 simp only [e1, e2, revoke_all k q hq, dropN]
theorem act_gone (k : Int) (h : Nat) (hh : h < 8) : activeO [recS 1, recU k 1] 0 (104 + (h : Int)) = none := by
 rcases h with _ | _ | _ | _ | _ | _ | _ | _ | h <;> (try omega)
 all_goals rfl
theorem drop_act (k j : Int) (q h : Nat) (hq : q < 4) (hh : h < 2 * q + 2) : (activeO (dropN k j q) 0 (104 + (h : Int))).isSome = ((activeO (RN k q) 0 (104 + (h : Int))).isSome && decide (k ≠ j)) := by
 rw [dropN]
 by_cases e : k = j
 ·
  rw [if_pos e, act_gone k h (by omega)]
  simp [e]
 ·
  rw [if_neg e]
  simp [e]
theorem rn_len (k : Int) (q : Nat) : (RN k q).length = 4 + 2 * q := by
 have h1 : ((List.range q).flatMap (fun p => [tA k p, tR k p true])).length = 2 * q := by
  induction q with
  | zero => rfl
  | succ q ih => rw [List.range_succ, List.flatMap_append, List.length_append, ih]; simp; omega
 rw [RN, List.length_cons, List.length_cons, List.length_append, h1]
 simp
 omega
theorem rn_small (k : Int) (q : Nat) : ∀ r ∈ RN k q, r.s3.size ≤ 1000000 := by
 have h6 : sOp.size ≤ 1000000 := by decide
 have hu : (recU k 1).s3.size ≤ 1000000 := h6
 have hs : (recS 1).s3.size ≤ 1000000 := by decide
 intro r hr
 simp only [RN, List.mem_cons, List.mem_append, List.mem_flatMap, List.not_mem_nil, or_false] at hr
 rcases hr with rfl | rfl | ⟨p, _, rfl | rfl⟩ | rfl | rfl
 ·
  exact hs
 ·
  exact hu
 all_goals exact h6
end Go.Proofs.YtnhjgocdepbajaaGreat

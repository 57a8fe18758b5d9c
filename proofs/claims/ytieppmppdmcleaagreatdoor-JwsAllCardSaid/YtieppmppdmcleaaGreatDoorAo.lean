/- Loads ahead of what writes their cells in regions that draw their order; names looked up; an object's rows while a name and a kid are laid. Conditions as of the words. -/
import Derived.Test.YtieppmppdmcleaaGreatDoorJ4
set_option linter.unusedVariables false
set_option linter.unusedSimpArgs false
set_option maxRecDepth 20000
namespace Go.Proofs.YtieppmppdmcleaaGreatDoor
section
open Go.RowKit
section
variable {P : Program} {ops : Array Oper} {Q : Exit → Act → World → Prop} {md : Region.Mode} {S : Array Bool → World → Prop}
def wpAnyL (P : Program) (md : Region.Mode) (ops : Array Oper) (Q : Exit → Act → World → Prop) (S : Array Bool → World → Prop) : Nat → Array Bool → Act → World → Prop
 | 0, listed, a, w => Region.ready md ops listed = [] ∧ Q .normal a w
 | fuel + 1, listed, a, w =>
  (Region.ready md ops listed = [] → Q .normal a w) ∧
  ∀ i ∈ Region.ready md ops listed, wpOp P ops Q i (fun a' w' => S (listed.setIfInBounds i true) w' ∧ wpAnyL P md ops Q S fuel (listed.setIfInBounds i true) a' w') a w
theorem wpAny_of_L : ∀ (fuel : Nat) (listed : Array Bool) (a : Act) (w : World), wpAnyL P md ops Q S fuel listed a w → wpAny P md ops Q fuel listed a w
 | 0, _, _, _, h => h
 | fuel + 1, _, _, _, h => ⟨h.1, fun i hi => wpOp_mono (fun a' w' h' => wpAny_of_L fuel _ a' w' h'.2) (h.2 i hi)⟩
def Ahead (S : Array Bool → World → Prop) (ds : List Nat) (w : World) : Prop := ∃ L, (∀ d ∈ ds, L.getD d false = false) ∧ S L w
theorem wpAnyL_first {i : Nat} {oi : Oper} {v : Value} (ds : List Nat) (hi : ops[i]? = some oi) (hsel : ∀ (j : Nat) (o : Oper) cs b, ops[j]? = some o → o.op ≠ .select cs b)
  (hQ : ∀ c a w, Q (.panic c) (a.put oi.dst v) w → Q (.panic c) a w) (hdi : i ∉ ds)
  (hds : ∀ d ∈ ds, ∀ od, ops[d]? = some od → ∃ e ∈ od.after, Region.binds md e = true ∧ (e.on = i ∨ e.on ∈ ds))
  (hSi : ∀ L w, S (L.setIfInBounds i true) w ↔ S L w) :
  ∀ (fuel : Nat) (listed : Array Bool) (a : Act) (w : World), (∀ d ∈ ds, listed.getD d false = false) →
   (∀ j oj, ops[j]? = some oj → j ≠ i → listed.getD j true = false → (∀ e ∈ oj.after, Region.binds md e = true → e.on ≠ i) → oi.apart ops oj = true) →
   i ∈ Region.ready md ops listed → YieldsIf P ops (Ahead S ds) oi v a → S listed w →
   wpAnyL P md ops Q S fuel (listed.setIfInBounds i true) (a.put oi.dst v) w → wpAnyL P md ops Q S (fuel + 1) listed a w := by
 intro fuel
 induction fuel with
 | zero =>
  intro listed a w hd _ hr hy hS H
  refine ⟨fun h => (by rw [h] at hr; cases hr), fun j hj => ?_⟩
  by_cases hji : j = i
  ·
   subst hji
   exact hy.wpOp hi ⟨listed, hd, hS⟩ ⟨(hSi _ _).2 hS, H⟩
  ·
   have := ready_mono hj hji
   rw [H.1] at this
   cases this
 | succ fuel ih =>
  intro listed a w hd hfree hr hy hS H
  refine ⟨fun h => (by rw [h] at hr; cases hr), fun j hj => ?_⟩
  by_cases hji : j = i
  ·
   subst hji
   exact hy.wpOp hi ⟨listed, hd, hS⟩ ⟨(hSi _ _).2 hS, H⟩
  ·
   have h1 := H.2 j (ready_mono hj hji)
   obtain ⟨hjun, oj, hoj, hall⟩ := mem_ready.1 hj
   have hiun := (mem_ready.1 hr).1
   have hnot : ∀ e ∈ oj.after, Region.binds md e = true → e.on ≠ i := fun e he hb heq => by
    have h1 := hall e he hb
    have h0 := hiun
    rw [heq] at h1
    rcases Nat.lt_or_ge i listed.size with h' | h'
    ·
     simp [h'] at h0 h1; rw [h0] at h1; cases h1
    ·
     simp [Array.getElem?_eq_none h'] at h1
   have hjd : j ∉ ds := fun hm => by
    obtain ⟨e, he, hb, h2⟩ := hds j hm oj hoj
    rcases h2 with h2 | h2
    ·
     exact hnot e he hb h2
    ·
     have h3 := hall e he hb
     have h4 := hd _ h2
     rw [h3] at h4
     cases h4
   have h2 := wpOp_putIf hoj (hfree j oj hoj hji hjun hnot) (fun cs b => hsel i oi cs b hi) (fun cs b => hsel j oj cs b hoj) hQ hy h1
   have hfree' : ∀ k ok, ops[k]? = some ok → k ≠ i → (listed.setIfInBounds j true).getD k true = false →
     (∀ e ∈ ok.after, Region.binds md e = true → e.on ≠ i) → oi.apart ops ok = true := fun k ok hk hki hun hno => by
    refine hfree k ok hk hki ?_ hno
    by_cases hjk : j = k
    ·
     subst hjk; exact hjun
    ·
     rw [getD_set_ne true hjk] at hun; exact hun
   have hd' : ∀ d ∈ ds, (listed.setIfInBounds j true).getD d false = false := fun d hm => by
    rw [getD_set_ne false (fun e => hjd (by rw [e]; exact hm))]
    exact hd d hm
   refine wpOp_mono (fun a' w' h3 => ?_) h2
   have h4 : S (listed.setIfInBounds j true) w' := (hSi _ _).1 (by rw [Array.setIfInBounds_comm _ _ hji]; exact h3.2.1)
   refine ⟨h4, ih (listed.setIfInBounds j true) a' w' hd' hfree' (ready_mono hr (Ne.symm hji)) h3.1 h4 ?_⟩
   rw [Array.setIfInBounds_comm _ _ hji]
   exact h3.2.2
theorem wpAnyL_take {i : Nat} {oi : Oper} {v : Value} (ds : List Nat) {fuel : Nat} {listed : Array Bool} {a : Act} {w : World} (hi : ops[i]? = some oi)
  (hs : Region.noSelect ops = true) (hf : Region.free md ops listed i = true) (hr : (Region.ready md ops listed).contains i = true)
  (hQ : ∀ c a w, Q (.panic c) (a.put oi.dst v) w → Q (.panic c) a w)
  (hds : (!ds.contains i && ds.all (fun d => !listed.getD d false && (match ops[d]? with | some od => od.after.any (fun e => Region.binds md e && (e.on == i || ds.contains e.on)) | none => false))) = true)
  (hSi : ∀ L w, S (L.setIfInBounds i true) w ↔ S L w) (hy : YieldsIf P ops (Ahead S ds) oi v a) (hS : S listed w)
  (h : wpAnyL P md ops Q S fuel (listed.setIfInBounds i true) (a.put oi.dst v) w) : wpAnyL P md ops Q S (fuel + 1) listed a w := by
 simp only [Bool.and_eq_true, List.all_eq_true] at hds
 obtain ⟨h1, h2⟩ := hds
 refine wpAnyL_first ds hi (Region.noSelect_spec hs) hQ (by simpa using h1) (fun d hd od ho => ?_) hSi fuel listed a w (fun d hd => ?_) (Region.free_spec hi hf) (by simpa using hr) hy hS h
 ·
  have := (h2 d hd).2
  rw [ho] at this
  simp only [Array.any_eq_true, Bool.and_eq_true, Bool.or_eq_true, beq_iff_eq] at this
  obtain ⟨k, hk, h3, h4⟩ := this
  exact ⟨od.after[k], Array.getElem_mem hk, h3, by simpa using h4⟩
 ·
  simpa using (h2 d hd).1
def AllReadyL (P : Program) (md : Region.Mode) (ops : Array Oper) (Q : Exit → Act → World → Prop) (S : Array Bool → World → Prop) (fuel : Nat) (listed : Array Bool) (a : Act) (w : World) (rs : List Nat) : Prop :=
 ∀ i ∈ rs, wpOp P ops Q i (fun a' w' => S (listed.setIfInBounds i true) w' ∧ wpAnyL P md ops Q S fuel (listed.setIfInBounds i true) a' w') a w
theorem AllReadyL.nil {fuel : Nat} {listed : Array Bool} {a : Act} {w : World} : AllReadyL P md ops Q S fuel listed a w [] := fun _ h => by cases h
theorem AllReadyL.cons {fuel : Nat} {listed : Array Bool} {a : Act} {w : World} {i : Nat} {o : Oper} {rs : List Nat} (ho : ops[i]? = some o)
  (h : ∀ K' : Act → World → Prop, Shut (∀ a w, S (listed.setIfInBounds i true) w → (S (listed.setIfInBounds i true) w → wpAnyL P md ops Q S fuel (listed.setIfInBounds i true) a w) → K' a w) → if Region.wanted o (yielded ops a.tmps) = true then Oper.wp P o a w K' Q else K' (a.put o.dst undef) w)
  (hs : AllReadyL P md ops Q S fuel listed a w rs) : AllReadyL P md ops Q S fuel listed a w (i :: rs) := fun j hj => by
 rcases List.mem_cons.1 hj with rfl | hj
 ·
  exact wpOp_step ho (fun K' hK => h K' (fun a w hS hW => hK a w ⟨hS, hW hS⟩))
 ·
  exact hs j hj
theorem wpAnyL_ready {rs : List Nat} {fuel : Nat} {listed : Array Bool} {a : Act} {w : World} (hr : Region.ready md ops listed = rs) (hne : rs ≠ [])
  (h : AllReadyL P md ops Q S fuel listed a w rs) : wpAnyL P md ops Q S (fuel + 1) listed a w := ⟨fun h0 => absurd (hr ▸ h0) hne, hr ▸ h⟩
theorem wpAnyL_done {listed : Array Bool} {a : Act} {w : World} (hr : Region.ready md ops listed = []) (h : Q .normal a w) :
  ∀ fuel, wpAnyL P md ops Q S fuel listed a w
 | 0 => ⟨hr, h⟩
 | _ + 1 => ⟨fun _ => h, by rw [hr]; simp⟩
theorem wp_region_L {id : Nat} {a : Act} {w : World} (hm : P.follows .mixedOrders = true)
  (h : wpAnyL P .any ops Q S ops.size (Array.replicate ops.size false) a w.drew) : (Code.region id ops true).wp P Q a w :=
 wp_region_any hm (wpAny_of_L _ _ _ _ h)
def HoldL (cs : List (Nat × Addr × Value)) (L : Array Bool) (w : World) : Prop := ∀ c ∈ cs, L.getD c.1 false = false → w.cell? c.2.1 = some c.2.2
theorem HoldL.flag {cs : List (Nat × Addr × Value)} {i : Nat} (hi : (cs.all fun c => c.1 != i) = true) (L : Array Bool) (w : World) : HoldL cs (L.setIfInBounds i true) w ↔ HoldL cs L w := by
 have hne : ∀ c ∈ cs, i ≠ c.1 := fun c hc e => by
  have := List.all_eq_true.1 hi c hc
  simp [e] at this
 constructor
 ·
  intro h c hc h0
  exact h c hc (by rw [getD_set_ne false (hne c hc)]; exact h0)
 ·
  intro h c hc h0
  rw [getD_set_ne false (hne c hc)] at h0
  exact h c hc h0
theorem Ahead.cell {cs : List (Nat × Addr × Value)} {ds : List Nat} {w : World} (h : Ahead (HoldL cs) ds w) {c : Nat} {ad : Addr} {v : Value} (hc : (c, ad, v) ∈ cs) (hd : c ∈ ds) : w.cell? ad = some v := by
 obtain ⟨L, h1, h2⟩ := h
 exact h2 _ hc (h1 c hd)
theorem region_fin {id : Nat} {a : Act} {w : World} (F : Act → Act → World → Prop) (h1 : (Code.region id ops true).wp P (fun e a' w' => e = .normal ∧ F a a' w') a w) (h2 : ∀ a' w', F a a' w' → Q .normal a' w') : (Code.region id ops true).wp P Q a w :=
 Code.wp_mono (fun e a' w' h => by rw [h.1]; exact h2 a' w' h.2) h1
def HoldF (k : Nat) (C : World → Prop) (L : Array Bool) (w : World) : Prop := L.getD k false = false → C w
theorem HoldF.flag {k i : Nat} {C : World → Prop} (hi : (k != i) = true) (L : Array Bool) (w : World) : HoldF k C (L.setIfInBounds i true) w ↔ HoldF k C L w := by
 unfold HoldF
 rw [getD_set_ne false (fun e => by simp [e] at hi)]
theorem Ahead.held {k : Nat} {C : World → Prop} {ds : List Nat} {w : World} (h : Ahead (HoldF k C) ds w) (hk : k ∈ ds) : C w := by
 obtain ⟨L, h1, h2⟩ := h
 exact h2 (h1 k hk)
theorem tkl {k : Nat} {C : World → Prop} (i : Nat) (ds : List Nat) {oi : Oper} {v : Value} {fuel : Nat} {listed : Array Bool} {a : Act} {w : World} (hi : ops[i]? = some oi)
  (h : wpAnyL P md ops Q (HoldF k C) fuel (listed.setIfInBounds i true) (a.put oi.dst v) w) (hw : Region.wanted oi (yielded ops a.tmps) = true := by rfl)
  (hv : ∀ w, Ahead (HoldF k C) ds w → (execOp a.eval oi).run P w = .ok (.value v) w := by (intro w hSw; replace hSw := hSw.held (by simp); (try dsimp only at hSw); go_simp; all_goals (with_reducible rfl)))
  (hs : Region.noSelect ops = true := by kernel_rfl) (hf : Region.free md ops listed i = true := by kernel_rfl) (hr : (Region.ready md ops listed).contains i = true := by kernel_rfl)
  (hQ : ∀ c a w, Q (.panic c) (a.put oi.dst v) w → Q (.panic c) a w := by (intro _ _ _ h; exact nomatch h.1))
  (hds : (!ds.contains i && ds.all (fun d => !listed.getD d false && (match ops[d]? with | some od => od.after.any (fun e => Region.binds md e && (e.on == i || ds.contains e.on)) | none => false))) = true := by kernel_rfl)
  (hki : (k != i) = true := by rfl) (hS : HoldF k C listed w := by assumption) : wpAnyL P md ops Q (HoldF k C) (fuel + 1) listed a w :=
 wpAnyL_take (i := i) (v := v) ds hi hs hf hr hQ hds (HoldF.flag hki) (Or.inl ⟨hw, hv⟩) hS h
theorem rdl (i : Nat) {o : Oper} {fuel : Nat} {listed : Array Bool} {a : Act} {w : World} (ho : ops[i]? = some o)
  (h : ∀ K' : Act → World → Prop, Shut (∀ a w, S (listed.setIfInBounds i true) w → (S (listed.setIfInBounds i true) w → wpAnyL P md ops Q S fuel (listed.setIfInBounds i true) a w) → K' a w) → if Region.wanted o (yielded ops a.tmps) = true then Oper.wp P o a w K' Q else K' (a.put o.dst undef) w)
  (hr : Region.ready md ops listed = [i] := by kernel_rfl) : wpAnyL P md ops Q S (fuel + 1) listed a w :=
 wpAnyL_ready hr (by simp) (AllReadyL.cons ho h AllReadyL.nil)
end
end
section
open Go.RowKit Go.Maps
theorem names_has {w : World} {lo : Nat} {nv : Value} {names : List (List UInt8)} (h : w.ownsRow lo 9 1 nv names.length (strVs names)) (q : List UInt8) (hb : names.length ≤ 1000001) :
  Calls Tryz.prog 132 #[nv, .string ⟨q.toArray⟩] w fun e w' => e = .returned (.bool (names.contains q)) ∧ w = w' := by
 rcases h.2 with ⟨rfl, e⟩ | ⟨g, cap, cur, rfl, hg, hgg, hc, hm, _⟩
 ·
  have h0 : names = [] := List.length_eq_zero_iff.1 e
  subst h0
  refine (Tryz.slices_Contains_string_empty none 0 ⟨q.toArray⟩ w).mono ?_
  rintro _ _ ⟨rfl, rfl⟩
  exact ⟨rfl, rfl⟩
 ·
  have hcl := h.cells (g := g) rfl
  have h1 := Tryz.slices_Contains_string g 0 names.length cap (names.map fun p => ⟨p.toArray⟩) ⟨q.toArray⟩ w (by simp) (by omega) (fun j hj => by
   have hj' : j < names.length := by simpa using hj
   have := hcl j (strV (names[j]'hj')) (by simp [strVs, hj'])
   rw [add_zero_at] at this
   simpa [hj', strV] using this)
  have he : Lib.containsS ((names.map fun p => (⟨p.toArray⟩ : ByteArray)).take names.length) ⟨q.toArray⟩ = names.contains q := by
   rw [Bool.eq_iff_iff, Lib.containsS_iff, List.contains_iff_mem, ← List.map_take, List.take_length, List.mem_map]
   constructor
   ·
    rintro ⟨p, hp, e⟩
    have : p = q := by simpa using e
    subst this; exact hp
   ·
    intro h
    exact ⟨q, h, rfl⟩
  rw [he] at h1
  refine h1.mono ?_
  rintro _ _ ⟨rfl, rfl⟩
  exact ⟨rfl, rfl⟩
end
section
open Go.RowKit Go.Maps
structure ObjS (w0 : World) (g : Nat) (s : ByteArray) (q k10 : Nat) (cs6 cs10 : Array Value) (av : Value) (acc : List Jv) (v : Jv) (cs : List Value) (nv : Value) (names : List (List UInt8)) (W : World) : Prop where
 kids : Kids W (w0.heap.size + 2) nv names av acc
 kid : JvP W (fun b => w0.heap.size + 2 ≤ b ∧ some b ≠ av.ownBlock ∧ some b ≠ nv.ownBlock) v cs
 b1 : Blk W w0.heap.size 26 #[.int .i64 0, .bool false, .int .i64 0, .string ⟨#[]⟩, .slice none 0 0, .slice none 0 0]
 b2 : Blk W (w0.heap.size + 1) 26 cs6
 b10 : Blk W k10 26 cs10
 pat : PAt W g s q
 grown : w0.grownBy W (some g)
 hg : g < w0.heap.size
 hk : w0.heap.size + 2 ≤ k10
 na : some k10 ≠ av.ownBlock
 nn : some k10 ≠ nv.ownBlock
section
variable {w0 W W' : World} {g q k10 : Nat} {s : ByteArray} {cs6 cs10 : Array Value} {av nv nv' av' : Value} {acc : List Jv} {v : Jv} {cs : List Value} {names : List (List UInt8)}
theorem ObjS.below (h : ObjS w0 g s q k10 cs6 cs10 av acc v cs nv names W) (hb : Below W.heap.size W W') : ObjS w0 g s q k10 cs6 cs10 av acc v cs nv names W' :=
 ⟨h.kids.grown (below_row hb none) (by simp), JvP.keep (fun p hp _ => hb.cell hp) (fun _ _ h => h) hb.size _ _ h.kid, h.b1.below hb h.b1.lt, h.b2.below hb h.b2.lt, h.b10.below hb h.b10.lt, h.pat.below hb, grown_below2 h.grown hb, h.hg, h.hk, h.na, h.nn⟩
theorem ObjS.alloc (h : ObjS w0 g s q k10 cs6 cs10 av acc v cs nv names W) (o : Obj) : ObjS w0 g s q k10 cs6 cs10 av acc v cs nv names (W.alloc o) := h.below ((Below.refl W.heap.size W).alloc (Nat.le_refl _) o)
theorem ObjS.drew (h : ObjS w0 g s q k10 cs6 cs10 av acc v cs nv names W) : ObjS w0 g s q k10 cs6 cs10 av acc v cs nv names W.drew := h.below (Below.refl W.heap.size W).drew
theorem ObjS.cells (h : ObjS w0 g s q k10 cs6 cs10 av acc v cs nv names W) (i : Nat) : W.cell? ⟨w0.heap.size + 1, i, none⟩ = cs6[i]? ∧ W.cell? ⟨k10, i, none⟩ = cs10[i]? := ⟨h.b2.cell i, h.b10.cell i⟩
theorem ObjS.name (h : ObjS w0 g s q k10 cs6 cs10 av acc v cs nv names W) {t : List UInt8}
  (ho : W'.ownsRow (w0.heap.size + 2) 9 1 nv' (names.length + 1) (strVs names ++ [strV t])) (hg : W.grownBy W' nv.ownBlock) (hn : nv'.ownBlock = nv.ownBlock ∨ nv'.ownBlock = some W.heap.size) :
  ObjS w0 g s q k10 cs6 cs10 av acc v cs nv' (names ++ [t]) W' := by
 obtain ⟨vs, h0, h1, h2⟩ := h.kids
 have hD : ∀ b, b < W.heap.size → (w0.heap.size + 2 ≤ b ∧ some b ≠ av.ownBlock ∧ some b ≠ nv.ownBlock) → (w0.heap.size + 2 ≤ b ∧ some b ≠ av.ownBlock ∧ some b ≠ nv'.ownBlock) := fun b hb hd => by
  refine ⟨hd.1, hd.2.1, ?_⟩
  rcases hn with e | e <;> rw [e]
  ·
   exact hd.2.2
  ·
   intro e2
   injection e2 with e2
   omega
 have hlo : ∀ q, nv.ownBlock = some q → w0.heap.size + 2 ≤ q := fun q e => (h0.lt q e).1
 have hgl := h.hg
 refine ⟨⟨vs, by rw [List.length_append]; simpa [strVs] using ho, h1.kept hg (own_apart h1 h0 (by decide)), JvsP.keep (fun p hp hd => World.cell?_of_block (hg.block _ hp (fun e => hd.2.2 e))) hD hg.size _ _ h2⟩, JvP.keep (fun p hp hd => World.cell?_of_block (hg.block _ hp (fun e => hd.2.2 e))) hD hg.size _ _ h.kid,
  h.b1.grown hg (fun e => by have := hlo _ e.symm; omega), h.b2.grown hg (fun e => by have := hlo _ e.symm; omega), h.b10.grown hg h.nn, h.pat.grown hg (fun e => by have := hlo _ e.symm; omega), grown_then h.grown hg (fun q e => .inr (by have := hlo _ e; omega)), h.hg, h.hk, h.na, ?_⟩
 rcases hn with e | e <;> rw [e]
 ·
  exact h.nn
 ·
  intro e2
  injection e2 with e2
  have := h.b10.lt
  omega
structure ObjT (w0 : World) (g : Nat) (s : ByteArray) (q k10 : Nat) (cs6 cs10 : Array Value) (nv : Value) (names : List (List UInt8)) (av : Value) (acc : List Jv) (W : World) : Prop where
 kids : Kids W (w0.heap.size + 2) nv names av acc
 b1 : Blk W w0.heap.size 26 #[.int .i64 0, .bool false, .int .i64 0, .string ⟨#[]⟩, .slice none 0 0, .slice none 0 0]
 b2 : Blk W (w0.heap.size + 1) 26 cs6
 b10 : Blk W k10 26 cs10
 pat : PAt W g s q
 grown : w0.grownBy W (some g)
 hg : g < w0.heap.size
theorem ObjS.snoc (h : ObjS w0 g s q k10 cs6 cs10 av acc v cs nv names W) {vs : List (List Value)} (h0 : W.ownsRow (w0.heap.size + 2) 9 1 nv names.length (strVs names)) (h1 : W.ownsRow (w0.heap.size + 2) 26 6 av acc.length vs.flatten) (h2 : JvsP W (fun b => w0.heap.size + 2 ≤ b ∧ some b ≠ av.ownBlock ∧ some b ≠ nv.ownBlock) acc vs)
  (ho : W'.ownsRow (w0.heap.size + 2) 26 6 av' (acc.length + 1) (vs.flatten ++ cs)) (hg : W.grownBy W' av.ownBlock) (hn : av'.ownBlock = av.ownBlock ∨ av'.ownBlock = some W.heap.size) :
  ObjT w0 g s q k10 cs6 cs10 nv names av' (acc ++ [v]) W' := by
 have hlo : ∀ q, av.ownBlock = some q → w0.heap.size + 2 ≤ q := fun q e => (h1.lt q e).1
 have hgl := h.hg
 refine ⟨⟨vs ++ [cs], h0.kept hg (own_apart h0 h1 (by decide)), by rw [List.length_append, List.flatten_append]; simpa using ho, ?_⟩,
  h.b1.grown hg (fun e => by have := hlo _ e.symm; omega), h.b2.grown hg (fun e => by have := hlo _ e.symm; omega), h.b10.grown hg h.na, h.pat.grown hg (fun e => by have := hlo _ e.symm; omega), grown_then h.grown hg (fun q e => .inr (by have := hlo _ e; omega)), h.hg⟩
 refine JvsP.keep (fun p hp hd => World.cell?_of_block (hg.block _ hp (fun e => hd.2.1 e))) (fun b hb hd => ⟨hd.1, ?_, hd.2.2⟩) hg.size _ _ (JvsP.snoc h.kid h2)
 rcases hn with e | e <;> rw [e]
 ·
  exact hd.2.1
 ·
  intro e2
  injection e2 with e2
  omega
theorem ObjT.set_ (h : ObjT w0 g s q k10 cs6 cs10 nv names av acc W) (i : Nat) (u : Value) (hk : w0.heap.size + 2 ≤ k10) : ObjT w0 g s q k10 (cs6.setIfInBounds i u) cs10 nv names av acc (W.setCell ⟨w0.heap.size + 1, i, none⟩ u) := by
 have hg : W.grownBy (W.setCell ⟨w0.heap.size + 1, i, none⟩ u) (some (w0.heap.size + 1)) := ⟨rfl, rfl, rfl, by simp, fun q _ hne => Below.heap_setCell _ _ _ _ (fun e => hne (by rw [e]))⟩
 have hgl := h.hg
 exact ⟨h.kids.grown hg (fun q e => by injection e with e; omega), h.b1.far (by simp) _, h.b2.set_ i u, h.b10.far (by simp; omega) _, h.pat.grown hg (by simp; omega), grown_then h.grown hg (fun q e => .inr (by injection e with e; omega)), h.hg⟩
end
theorem blk_reads {W : World} {b : Nat} {t : TypeId} {us : List Value} (h : Blk W b t us.toArray) : Reads W W.heap.size us.length (some ⟨b, 0, none⟩) 1 us :=
 ⟨by simp, fun _ => ⟨_, rfl, h.lt, fun j u hu => by
  have ha : ((⟨b, 0, none⟩ : Addr).add j) = ⟨b, j, none⟩ := by unfold Addr.add; split <;> simp_all
  rw [ha, h.cell j]
  simpa using hu⟩⟩
end
end Go.Proofs.YtieppmppdmcleaaGreatDoor

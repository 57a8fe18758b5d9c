/- Clients in memory: four cells each; rows of clients and of texts; what comes in as an argument. No condition of its own. -/
import Derived.Test.YtekbdfnbnpmclaaGreatDoorVb
set_option linter.unusedVariables false
set_option linter.unusedSimpArgs false
set_option maxRecDepth 20000
namespace Go.Proofs.YtekbdfnbnpmclaaGreatDoor
open Go.RowKit
structure Cl where
  id : List UInt8
  sec : Int
  red : List (List UInt8)
  sc : List UInt8
  ra : Option Addr
  rc : Nat
def Cl.cells (c : Cl) : List Value := [strV c.id, .int .i64 c.sec, .slice c.ra c.red.length c.rc, strV c.sc]
def Cl.arr (c : Cl) : Array Value := c.cells.toArray
def clZ : Cl := ⟨[], 0, [], [], none, 0⟩
instance : Inhabited Cl := ⟨clZ⟩
theorem Cl.len (c : Cl) : c.cells.length = 4 := rfl
theorem Cl.at0 (c : Cl) : c.arr[0]? = some (.string ⟨c.id.toArray⟩) := rfl
theorem Cl.at1 (c : Cl) : c.arr[1]? = some (.int .i64 c.sec) := rfl
theorem Cl.at2 (c : Cl) : c.arr[2]? = some (.slice c.ra c.red.length c.rc) := rfl
theorem Cl.at3 (c : Cl) : c.arr[3]? = some (.string ⟨c.sc.toArray⟩) := rfl
theorem cl_of (a b : List UInt8) (z : Int) (A : Option Addr) (r : List (List UInt8)) (c : Nat) : (#[.string ⟨a.toArray⟩, .int .i64 z, .slice A r.length c, .string ⟨b.toArray⟩] : Array Value) = (Cl.mk a z r b A c).arr := rfl
def cCells (cs : List Cl) : List Value := cs.flatMap Cl.cells
theorem cCells_len (cs : List Cl) : (cCells cs).length = 4 * cs.length := by
  induction cs with
  | nil => rfl
  | cons f fs ih => rw [cCells, List.flatMap_cons, List.length_append, Cl.len, ← cCells, ih, List.length_cons]; omega
theorem cCells_append (a b : List Cl) : cCells (a ++ b) = cCells a ++ cCells b := by simp [cCells]
theorem cCells_take (fs : List Cl) (k : Nat) : cCells (fs.take k) = (cCells fs).take (k * 4) := by
  by_cases h : k ≤ fs.length
  · have e : cCells fs = cCells (fs.take k) ++ cCells (fs.drop k) := by rw [← cCells_append, List.take_append_drop]
    have hl : (cCells (fs.take k)).length = k * 4 := by rw [cCells_len, List.length_take]; omega
    rw [e, ← hl, List.take_left]
  · rw [List.take_of_length_le (by omega), List.take_of_length_le (by rw [cCells_len]; omega)]
theorem cCells_drop (fs : List Cl) (k : Nat) : cCells (fs.drop k) = (cCells fs).drop (k * 4) := by
  by_cases h : k ≤ fs.length
  · have e : cCells fs = cCells (fs.take k) ++ cCells (fs.drop k) := by rw [← cCells_append, List.take_append_drop]
    have hl : (cCells (fs.take k)).length = k * 4 := by rw [cCells_len, List.length_take]; omega
    rw [e, ← hl, List.drop_left]
  · rw [List.drop_of_length_le (by omega), List.drop_of_length_le (by rw [cCells_len]; omega)]; rfl
theorem cCells_at : ∀ (fs : List Cl) (k : Nat) (f : Cl), fs[k]? = some f → ∀ j, j < 4 → (cCells fs)[4 * k + j]? = f.cells[j]?
  | [], k, f, h, j, _ => by simp at h
  | x :: fs, 0, f, h, j, hj => by
    simp at h
    subst h
    rw [cCells, List.flatMap_cons, List.getElem?_append_left (by rw [Cl.len]; omega)]
    simp
  | x :: fs, k + 1, f, h, j, hj => by
    rw [cCells, List.flatMap_cons, List.getElem?_append_right (by rw [Cl.len]; omega), Cl.len, show 4 * (k + 1) + j - 4 = 4 * k + j by omega]
    exact cCells_at fs k f (by simpa using h) j hj
theorem cCells_flat (rs : List Cl) : ∀ (j : Nat) u, (cCells rs)[j]? = some u → ∃ r, rs[j / 4]? = some r ∧ r.cells[j % 4]? = some u := by
  induction rs with
  | nil => intro j u h; simp [cCells] at h
  | cons r rs ih =>
    intro j u h
    rw [cCells, List.flatMap_cons, ← cCells] at h
    rcases Nat.lt_or_ge j 4 with hj | hj
    · rw [List.getElem?_append_left (by rw [Cl.len]; exact hj)] at h
      exact ⟨r, by rw [Nat.div_eq_of_lt hj]; rfl, by rw [Nat.mod_eq_of_lt hj]; exact h⟩
    · rw [List.getElem?_append_right (by rw [Cl.len]; exact hj), Cl.len] at h
      obtain ⟨x, h1, h2⟩ := ih _ _ h
      refine ⟨x, ?_, ?_⟩
      · rw [show j / 4 = (j - 4) / 4 + 1 by omega, List.getElem?_cons_succ]; exact h1
      · rw [show j % 4 = (j - 4) % 4 by omega]; exact h2
theorem cl_at {w : World} {B n : Nat} {ad : Addr} {fs : List Cl} (h : Reads w B 4 (some ad) n (cCells fs)) {k : Nat} {f : Cl} (hk : fs[k]? = some f) : ∀ j u, f.cells[j]? = some u → w.cell? ((ad.add (k * 4)).add j) = some u := by
  intro j u hu
  have hj : j < 4 := by
    have := (List.getElem?_eq_some_iff.1 hu).1
    rwa [Cl.len] at this
  have hkl := (List.getElem?_eq_some_iff.1 hk).1
  have hl := h.1
  rw [cCells_len] at hl
  obtain ⟨ad2, e, _, hc⟩ := h.2 (by omega)
  injection e with e
  subst e
  rw [add_of_add, show k * 4 + j = 4 * k + j by omega]
  exact hc _ u ((cCells_at fs k f hk j hj).trans hu)
theorem Cl.ones (f : Cl) : f.arr.all (·.oneCell') = true := by
  rw [Array.all_eq_true_iff_forall_mem]
  intro v hv
  simp [Cl.arr, Cl.cells, strV] at hv
  rcases hv with rfl | rfl | rfl | rfl <;> rfl
theorem cCells_ones (fs : List Cl) : ∀ u ∈ cCells fs, u.oneCell' = true := by
  intro u hu
  rw [cCells, List.mem_flatMap] at hu
  obtain ⟨f, _, hu⟩ := hu
  simp [Cl.cells, strV] at hu
  rcases hu with rfl | rfl | rfl | rfl <;> rfl
theorem cl_size : (Tryz.prog.info? 31).map (·.size) = some 4 := by kernel_rfl
theorem wpList_load_cl {ops : Array Oper} {rest : List Oper} {o : Oper} {a : Act} {w : World} {Q : Exit → Act → World → Prop} (hgd : o.guard = none) (x : Operand) (ho : o.op = .load 31 x)
    (ad : Addr) (hx : a.eval x = .pointer (some ad)) (f : Cl) (hc : ∀ j u, f.cells[j]? = some u → w.cell? (ad.add j) = some u)
    (h : wpList Tryz.prog ops Q rest (a.put o.dst (.agg f.arr)) w) : wpList Tryz.prog ops Q (o :: rest) a w :=
  wpList_load_at hgd 31 x ho ad hx f.cells _ hc Tryz.underlying31 rfl cl_size h
theorem wpList_store_cl {ops : Array Oper} {rest : List Oper} {op : Oper} {a : Act} (w : World) {Q : Exit → Act → World → Prop} {f : Cl} (hgd : op.guard = none) (x y : Operand) (ho : op.op = .store 31 x y)
    (hx : a.eval x = .pointer (some ⟨w.heap.size, 0, none⟩)) (hy : a.eval y = .agg f.arr)
    (h : wpList Tryz.prog ops Q rest (a.put op.dst undef) (w.alloc (.cells f.arr 31))) : wpList Tryz.prog ops Q (op :: rest) a (w.alloc (.cells #[.string ⟨#[]⟩, .int .i64 0, .slice none 0 0, .string ⟨#[]⟩] 31)) :=
  wpList_store_fresh w hgd 31 x y ho #[.string ⟨#[]⟩, .int .i64 0, .slice none 0 0, .string ⟨#[]⟩] f.arr 31 hx hy rfl cl_size f.ones h
theorem blk_cl {w : World} {g : Nat} {t : TypeId} {f : Cl} (h : Blk w g t f.arr) : ∀ j u, f.cells[j]? = some u → w.cell? ((⟨g, 0, none⟩ : Addr).add j) = some u := by
  intro j u hu
  rw [show ((⟨g, 0, none⟩ : Addr).add j) = ⟨g, j, none⟩ by unfold Addr.add; split <;> simp_all, h.cell j]
  simpa [Cl.arr] using hu
/-- a row of texts that may be read -/
def StrsAt (w : World) (A : Option Addr) (c : Nat) (ps : List (List UInt8)) : Prop := ps.length ≤ c ∧ Reads w w.heap.size 1 A ps.length (strVs ps)
theorem StrsAt.below {w w' : World} {A : Option Addr} {c : Nat} {ps : List (List UInt8)} (h : StrsAt w A c ps) (hb : Below w.heap.size w w') : StrsAt w' A c ps := ⟨h.1, (h.2.below hb).more hb.size⟩
theorem StrsAt.drewN {w : World} {A : Option Addr} {c : Nat} {ps : List (List UInt8)} (h : StrsAt w A c ps) (q : Nat) : StrsAt (w.drewN q) A c ps := h
theorem StrsAt.none_ (w : World) : StrsAt w none 0 [] := ⟨Nat.le_refl _, Reads.none_⟩
theorem StrsAt.get {w : World} {A : Option Addr} {c : Nat} {ps : List (List UInt8)} (h : StrsAt w A c ps) {k : Nat} {p : List UInt8} (hk : ps[k]? = some p) : ∃ ad, A = some ad ∧ w.cell? (ad.add k) = some (.string ⟨p.toArray⟩) := by
  have hkl := (List.getElem?_eq_some_iff.1 hk).1
  obtain ⟨ad, u, e, _, hu, hc⟩ := h.2.at_ hkl
  refine ⟨ad, e, ?_⟩
  have : u = strV p := by simpa [strVs, hk, eq_comm] using hu
  rw [hc, this, strV]
/-- a row of clients that may be read, with their redirects -/
def ClsAt (w : World) (A : Option Addr) (c : Nat) (cs : List Cl) : Prop := cs.length ≤ c ∧ Reads w w.heap.size 4 A cs.length (cCells cs) ∧ ∀ x ∈ cs, StrsAt w x.ra x.rc x.red
theorem ClsAt.below {w w' : World} {A : Option Addr} {c : Nat} {cs : List Cl} (h : ClsAt w A c cs) (hb : Below w.heap.size w w') : ClsAt w' A c cs := ⟨h.1, (h.2.1.below hb).more hb.size, fun x hx => (h.2.2 x hx).below hb⟩
theorem ClsAt.drewN {w : World} {A : Option Addr} {c : Nat} {cs : List Cl} (h : ClsAt w A c cs) (q : Nat) : ClsAt (w.drewN q) A c cs := h
theorem ClsAt.none_ (w : World) : ClsAt w none 0 [] := ⟨Nat.le_refl _, Reads.none_, fun x hx => by cases hx⟩
theorem ClsAt.own {w : World} {base : Nat} {T : TypeId} {v : Value} {cs : List Cl} (h : w.ownsRow base T 4 v cs.length (cCells cs)) (hr : ∀ x ∈ cs, StrsAt w x.ra x.rc x.red) : ∃ A c, v = .slice A cs.length c ∧ ClsAt w A c cs := by
  obtain ⟨A, c, e, hc, hr2⟩ := own_reads h (Nat.le_refl _)
  exact ⟨A, c, e, hc, hr2, hr⟩
theorem cl_next {w : World} {B : Nat} {T : TypeId} {v : Value} {l : List Cl} {f : Cl} {l' : List Cl} {cs : List Value} (h : w.ownsRow B T 4 v (l.length + 1) (cCells l ++ cs)) (hc : cs = f.cells) (e : l' = l ++ [f]) : w.ownsRow B T 4 v l'.length (cCells l') := by
  subst e hc
  rw [cCells_append, List.length_append]
  simpa [cCells] using h
theorem str_next {w : World} {B : Nat} {T : TypeId} {v : Value} {l : List (List UInt8)} {f : List UInt8} {l' : List (List UInt8)} {cs : List Value} (h : w.ownsRow B T 1 v (l.length + 1) (strVs l ++ cs)) (hc : cs = [strV f]) (e : l' = l ++ [f]) : w.ownsRow B T 1 v l'.length (strVs l') := by
  subst e hc
  rw [List.length_append]
  simpa [strVs] using h
theorem StrsAt.own {w : World} {base : Nat} {T : TypeId} {v : Value} {ps : List (List UInt8)} (h : w.ownsRow base T 1 v ps.length (strVs ps)) : ∃ A c, v = .slice A ps.length c ∧ StrsAt w A c ps := by
  obtain ⟨A, c, e, hc, hr2⟩ := own_reads h (Nat.le_refl _)
  exact ⟨A, c, e, hc, hr2⟩
theorem strVs_ones (ps : List (List UInt8)) : ∀ u ∈ strVs ps, u.oneCell' = true := by
  intro u hu
  rw [strVs, List.mem_map] at hu
  obtain ⟨p, _, rfl⟩ := hu
  rfl
/-- a part of a row of clients -/
theorem ClsAt.cut {w : World} {ad : Addr} {c : Nat} {cs : List Cl} (h : ClsAt w (some ad) c cs) (i n : Nat) (hn : i + n ≤ cs.length) (c' : Nat) (hc : n ≤ c') : ClsAt w (some (ad.add (i * 4))) c' ((cs.drop i).take n) := by
  have hl : ((cs.drop i).take n).length = n := by rw [List.length_take, List.length_drop]; omega
  refine ⟨by rw [hl]; exact hc, ⟨by rw [cCells_len]; omega, fun hp => ?_⟩, fun x hx => h.2.2 x (List.mem_of_mem_drop (List.mem_of_mem_take hx))⟩
  obtain ⟨ad2, e, hb, hcell⟩ := h.2.1.2 (by omega)
  injection e with e
  subst e
  refine ⟨_, rfl, by rw [block_of_add]; exact hb, fun j u hu => ?_⟩
  rw [cCells_take, cCells_drop, List.getElem?_take] at hu
  split at hu
  · rw [List.getElem?_drop] at hu
    rw [add_of_add]
    exact hcell _ u hu
  · simp at hu
section
open Go.ChangeShapes Go.WideShapes Go.ChangeAt
variable {H : Type} {enc : TypeId × Value → H} {w : World} {base n : Nat} {spare : Nat → Bool} {held : Bool}
theorem cells_strs : Tryz.prog.cellsOf 29 = 1 := by kernel_rfl
theorem cells_int : Tryz.prog.cellsOf 3 = 1 := by kernel_rfl
theorem cells_client : Tryz.prog.cellsOf 31 = 4 := by kernel_rfl
theorem strsAt_trod {A : Option Addr} {len cap n : Nat} {x : DataW H × List MemPlace} (h : DataW.trod enc Tryz.prog w base spare held n 29 [.slice A len cap] = some x) :
    ∃ ps : List (List UInt8), ps.length = len ∧ StrsAt w A cap ps := by
  obtain ⟨ss, h1, h2, h3⟩ := strs_trod h
  refine ⟨ss.map fun s => s.data.toList, by simpa using h1, by simpa [h1] using h2, ?_⟩
  have e : strVs (ss.map fun s => s.data.toList) = ss.map Value.string := by
    simp [strVs, strV]
  rw [e, List.length_map, h1]
  exact h3
theorem cell_int {c : Value} {x : DataW H × List MemPlace} (h : DataW.trod enc Tryz.prog w base spare held n 3 [c] = some x) : ∃ z, c = .int .i64 z ∧ (Lit.int .i64 z).wf = true := by
  obtain ⟨z, hz, _, hw⟩ := DataW.trod_int Tryz.underlying3 h
  injection hz with e _
  exact ⟨z, e, hw⟩
theorem client_trod {cs : List Value} {x : DataW H × List MemPlace} (h : DataW.trod enc Tryz.prog w base spare held n 31 cs = some x) :
    ∃ c : Cl, cs = c.cells ∧ StrsAt w c.ra c.rc c.red ∧ (Lit.int .i64 c.sec).wf = true := by
  obtain ⟨xs, k, _, _, hlen, hl, hf⟩ := DataW.trod_struct Tryz.underlying31 h
  rw [cells_client] at hlen
  obtain ⟨x0, e0⟩ := some_of (l := xs) (i := 0) (by rw [hl]; decide)
  obtain ⟨x1, e1⟩ := some_of (l := xs) (i := 1) (by rw [hl]; decide)
  obtain ⟨x2, e2⟩ := some_of (l := xs) (i := 2) (by rw [hl]; decide)
  obtain ⟨x3, e3⟩ := some_of (l := xs) (i := 3) (by rw [hl]; decide)
  have g0 := (hf 0 _ rfl).trans e0
  have g1 := (hf 1 _ rfl).trans e1
  have g2 := (hf 2 _ rfl).trans e2
  have g3 := (hf 3 _ rfl).trans e3
  clear hf e0 e1 e2 e3
  match cs, hlen with
  | [c0, c1, c2, c3], _ =>
    simp only [List.getElem_toArray, List.getElem_cons_zero, List.getElem_cons_succ, cells_string, cells_strs, cells_int, List.drop_zero, List.drop_succ_cons, List.take_succ_cons, List.take_zero] at g0 g1 g2 g3
    obtain ⟨s, rfl⟩ := cell_string g0
    obtain ⟨t, rfl⟩ := cell_string g3
    obtain ⟨z, rfl, hw⟩ := cell_int g1
    rcases Go.Deep.open_slice Tryz.underlying29 g2 with ⟨h0, _⟩ | ⟨a, l, c, m, k2, D, Pl, h0, _⟩
    · simp at h0
      subst h0
      exact ⟨⟨s.data.toList, z, [], t.data.toList, none, 0⟩, by simp [Cl.cells, strV], StrsAt.none_ w, hw⟩
    · simp at h0
      subst h0
      obtain ⟨ps, e, hs⟩ := strsAt_trod g2
      exact ⟨⟨s.data.toList, z, ps, t.data.toList, some a, c⟩, by simp [Cl.cells, strV, e], hs, hw⟩
theorem clients_trod {A : Option Addr} {len cap n : Nat} {x : DataW H × List MemPlace} (h : DataW.trod enc Tryz.prog w base spare held n 22 [.slice A len cap] = some x) :
    ∃ cs : List Cl, cs.length = len ∧ ClsAt w A cap cs ∧ ∀ c ∈ cs, (Lit.int .i64 c.sec).wf = true := by
  rcases Go.Deep.open_slice Tryz.underlying22 h with ⟨h0, _⟩ | ⟨a, l, c, m, k, D, Pl, h0, hb, hl, hc, hmm, _, hx⟩
  · simp at h0
    obtain ⟨rfl, rfl, rfl⟩ := h0
    exact ⟨[], rfl, ClsAt.none_ w, fun c hc => by cases hc⟩
  · simp at h0
    obtain ⟨rfl, rfl, rfl⟩ := h0
    have hlm : len ≤ m := by rw [hmm]; split <;> omega
    obtain ⟨R, hR⟩ := Go.Deep.choose_lt (α := Cl) (p := fun i r => w.cells? base (a.add (i * 4)) 4 = some r.cells ∧ StrsAt w r.ra r.rc r.red ∧ (Lit.int .i64 r.sec).wf = true) (fun i hi => by
      obtain ⟨cs', h1, h2⟩ := hx i hi
      rw [cells_client] at h1
      obtain ⟨r, rfl, h3, h4⟩ := client_trod h2
      exact ⟨r, h1, h3, h4⟩)
    have hmem : ∀ x ∈ (List.range len).map R, StrsAt w x.ra x.rc x.red ∧ (Lit.int .i64 x.sec).wf = true := by
      intro x hx
      obtain ⟨i, hi, rfl⟩ := List.mem_map.1 hx
      exact (hR i (by have := List.mem_range.1 hi; omega)).2
    refine ⟨(List.range len).map R, by simp, ⟨by simp; omega, ⟨?_, fun h => ?_⟩, fun x hx => (hmem x hx).1⟩, fun x hx => (hmem x hx).2⟩
    · rw [cCells_len]; simp; omega
    · have h0 : 0 < len := by simpa using h
      refine ⟨a, rfl, ?_, ?_⟩
      · obtain ⟨_, _, h3⟩ := World.cells?_some (hR 0 (by omega)).1
        have := h3 0 (by omega)
        have h4 := cell_lt (this.trans (show (R 0).cells[0]? = some _ from rfl))
        simpa [Addr.add] using h4
      · intro j u hu
        obtain ⟨r, h1, h2⟩ := cCells_flat _ _ _ hu
        rw [List.getElem?_map] at h1
        have hj : j / 4 < len := by
          rcases Nat.lt_or_ge (j / 4) len with q1 | q1
          · exact q1
          · rw [List.getElem?_eq_none (by simpa using q1)] at h1; simp at h1
        rw [List.getElem?_range hj] at h1
        simp at h1
        obtain ⟨_, _, h3⟩ := World.cells?_some (hR (j / 4) (by omega)).1
        have := h3 (j % 4) (by omega)
        rw [h1, h2] at this
        rw [show a.add j = (a.add (j / 4 * 4)).add (j % 4) by rw [Go.Deep.add_add]; congr 1; omega]
        exact this
end
end Go.Proofs.YtekbdfnbnpmclaaGreatDoor

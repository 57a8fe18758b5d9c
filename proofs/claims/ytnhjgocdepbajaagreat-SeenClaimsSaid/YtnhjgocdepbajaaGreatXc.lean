/- Clients in memory; who is found, which redirects are known. No condition of its own. -/
import Derived.Test.YtnhjgocdepbajaaGreatA2
import Derived.Test.YtnhjgocdepbajaaGreatA1
set_option linter.unusedVariables false
set_option linter.unusedSimpArgs false
set_option maxRecDepth 20000
set_option maxHeartbeats 2000000
namespace Go.Proofs.YtnhjgocdepbajaaGreat
namespace C17
section
open Go.RowKit
theorem eq_strL (p q : List UInt8) : ((⟨p.toArray⟩ : ByteArray).toList == (⟨q.toArray⟩ : ByteArray).toList) = decide (p = q) := by
 rw [ByteArray.toList_eq, ByteArray.toList_eq, Bool.eq_iff_iff]; simp
end
section
open Go.RowKit
structure Cl where
 id : List UInt8
 sec : Int
 red : List (List UInt8)
 sc : List UInt8
 ra : Option Addr
 rc : Nat
def Cl.cells (c : Cl) : List Value := [strV c.id, .int .i64 c.sec, .slice c.ra c.red.length c.rc, strV c.sc]
def Cl.arr (c : Cl) : Array Value := c.cells.toArray
def clZ : Cl := ⟨[], 0, [], [], none, 0⟩
instance : Inhabited Cl := ⟨clZ⟩
theorem Cl.len (c : Cl) : c.cells.length = 4 := rfl
theorem Cl.at0 (c : Cl) : c.arr[0]? = some (.string ⟨c.id.toArray⟩) := rfl
theorem Cl.at1 (c : Cl) : c.arr[1]? = some (.int .i64 c.sec) := rfl
theorem Cl.at2 (c : Cl) : c.arr[2]? = some (.slice c.ra c.red.length c.rc) := rfl
def cCells (cs : List Cl) : List Value := cs.flatMap Cl.cells
theorem cCells_len (cs : List Cl) : (cCells cs).length = 4 * cs.length := by
 induction cs with
 | nil => rfl
 | cons f fs ih => rw [cCells, List.flatMap_cons, List.length_append, Cl.len, ← cCells, ih, List.length_cons]; omega
theorem cCells_append (a b : List Cl) : cCells (a ++ b) = cCells a ++ cCells b := by simp [cCells]
theorem cCells_take (fs : List Cl) (k : Nat) : cCells (fs.take k) = (cCells fs).take (k * 4) := by
 by_cases h : k ≤ fs.length
 ·
  have e : cCells fs = cCells (fs.take k) ++ cCells (fs.drop k) := by rw [← cCells_append, List.take_append_drop]
  have hl : (cCells (fs.take k)).length = k * 4 := by rw [cCells_len, List.length_take]; omega
  rw [e, ← hl, List.take_left]
 ·
  rw [List.take_of_length_le (by omega), List.take_of_length_le (by rw [cCells_len]; omega)]
theorem cCells_drop (fs : List Cl) (k : Nat) : cCells (fs.drop k) = (cCells fs).drop (k * 4) := by
 by_cases h : k ≤ fs.length
 ·
  have e : cCells fs = cCells (fs.take k) ++ cCells (fs.drop k) := by rw [← cCells_append, List.take_append_drop]
  have hl : (cCells (fs.take k)).length = k * 4 := by rw [cCells_len, List.length_take]; omega
  rw [e, ← hl, List.drop_left]
 ·
  rw [List.drop_of_length_le (by omega), List.drop_of_length_le (by rw [cCells_len]; omega)]; rfl
theorem cCells_at : ∀ (fs : List Cl) (k : Nat) (f : Cl), fs[k]? = some f → ∀ j, j < 4 → (cCells fs)[4 * k + j]? = f.cells[j]?
 | [], k, f, h, j, _ => by simp at h
 | x :: fs, 0, f, h, j, hj => by
  simp at h
  subst h
  rw [cCells, List.flatMap_cons, List.getElem?_append_left (by rw [Cl.len]; omega)]
  simp
 | x :: fs, k + 1, f, h, j, hj => by
  rw [cCells, List.flatMap_cons, List.getElem?_append_right (by rw [Cl.len]; omega), Cl.len, show 4 * (k + 1) + j - 4 = 4 * k + j by omega]
  exact cCells_at fs k f (by simpa using h) j hj
theorem cl_at {w : World} {B n : Nat} {ad : Addr} {fs : List Cl} (h : Reads w B 4 (some ad) n (cCells fs)) {k : Nat} {f : Cl} (hk : fs[k]? = some f) : ∀ j u, f.cells[j]? = some u → w.cell? ((ad.add (k * 4)).add j) = some u := by
 intro j u hu
 have hj : j < 4 := by
  have := (List.getElem?_eq_some_iff.1 hu).1
  rwa [Cl.len] at this
 have hkl := (List.getElem?_eq_some_iff.1 hk).1
 have hl := h.1
 rw [cCells_len] at hl
 obtain ⟨ad2, e, _, hc⟩ := h.2 (by omega)
 injection e with e
 subst e
 rw [add_of_add, show k * 4 + j = 4 * k + j by omega]
 exact hc _ u ((cCells_at fs k f hk j hj).trans hu)
theorem Cl.ones (f : Cl) : f.arr.all (·.oneCell') = true := by
 rw [Array.all_eq_true_iff_forall_mem]
 intro v hv
 simp [Cl.arr, Cl.cells, strV] at hv
 rcases hv with rfl | rfl | rfl | rfl <;> rfl
theorem cCells_ones (fs : List Cl) : ∀ u ∈ cCells fs, u.oneCell' = true := by
 intro u hu
 rw [cCells, List.mem_flatMap] at hu
 obtain ⟨f, _, hu⟩ := hu
 simp [Cl.cells, strV] at hu
 rcases hu with rfl | rfl | rfl | rfl <;> rfl
def StrsAt (w : World) (A : Option Addr) (c : Nat) (ps : List (List UInt8)) : Prop := ps.length ≤ c ∧ Reads w w.heap.size 1 A ps.length (strVs ps)
theorem StrsAt.below {w w' : World} {A : Option Addr} {c : Nat} {ps : List (List UInt8)} (h : StrsAt w A c ps) (hb : Below w.heap.size w w') : StrsAt w' A c ps := ⟨h.1, (h.2.below hb).more hb.size⟩
theorem StrsAt.drewN {w : World} {A : Option Addr} {c : Nat} {ps : List (List UInt8)} (h : StrsAt w A c ps) (q : Nat) : StrsAt (w.drewN q) A c ps := h
theorem StrsAt.none_ (w : World) : StrsAt w none 0 [] := ⟨Nat.le_refl _, Reads.none_⟩
theorem StrsAt.get {w : World} {A : Option Addr} {c : Nat} {ps : List (List UInt8)} (h : StrsAt w A c ps) {k : Nat} {p : List UInt8} (hk : ps[k]? = some p) : ∃ ad, A = some ad ∧ w.cell? (ad.add k) = some (.string ⟨p.toArray⟩) := by
 have hkl := (List.getElem?_eq_some_iff.1 hk).1
 obtain ⟨ad, u, e, _, hu, hc⟩ := h.2.at_ hkl
 refine ⟨ad, e, ?_⟩
 have : u = strV p := by simpa [strVs, hk, eq_comm] using hu
 rw [hc, this, strV]
def ClsAt (w : World) (A : Option Addr) (c : Nat) (cs : List Cl) : Prop := cs.length ≤ c ∧ Reads w w.heap.size 4 A cs.length (cCells cs) ∧ ∀ x ∈ cs, StrsAt w x.ra x.rc x.red
theorem ClsAt.below {w w' : World} {A : Option Addr} {c : Nat} {cs : List Cl} (h : ClsAt w A c cs) (hb : Below w.heap.size w w') : ClsAt w' A c cs := ⟨h.1, (h.2.1.below hb).more hb.size, fun x hx => (h.2.2 x hx).below hb⟩
theorem ClsAt.drewN {w : World} {A : Option Addr} {c : Nat} {cs : List Cl} (h : ClsAt w A c cs) (q : Nat) : ClsAt (w.drewN q) A c cs := h
theorem ClsAt.none_ (w : World) : ClsAt w none 0 [] := ⟨Nat.le_refl _, Reads.none_, fun x hx => by cases hx⟩
theorem ClsAt.own {w : World} {base : Nat} {T : TypeId} {v : Value} {cs : List Cl} (h : w.ownsRow base T 4 v cs.length (cCells cs)) (hr : ∀ x ∈ cs, StrsAt w x.ra x.rc x.red) : ∃ A c, v = .slice A cs.length c ∧ ClsAt w A c cs := by
 obtain ⟨A, c, e, hc, hr2⟩ := own_reads h (Nat.le_refl _)
 exact ⟨A, c, e, hc, hr2, hr⟩
theorem StrsAt.own {w : World} {base : Nat} {T : TypeId} {v : Value} {ps : List (List UInt8)} (h : w.ownsRow base T 1 v ps.length (strVs ps)) : ∃ A c, v = .slice A ps.length c ∧ StrsAt w A c ps := by
 obtain ⟨A, c, e, hc, hr2⟩ := own_reads h (Nat.le_refl _)
 exact ⟨A, c, e, hc, hr2⟩
theorem strVs_ones (ps : List (List UInt8)) : ∀ u ∈ strVs ps, u.oneCell' = true := by
 intro u hu
 rw [strVs, List.mem_map] at hu
 obtain ⟨p, _, rfl⟩ := hu
 rfl
theorem ClsAt.cut {w : World} {ad : Addr} {c : Nat} {cs : List Cl} (h : ClsAt w (some ad) c cs) (i n : Nat) (hn : i + n ≤ cs.length) (c' : Nat) (hc : n ≤ c') : ClsAt w (some (ad.add (i * 4))) c' ((cs.drop i).take n) := by
 have hl : ((cs.drop i).take n).length = n := by rw [List.length_take, List.length_drop]; omega
 refine ⟨by rw [hl]; exact hc, ⟨by rw [cCells_len]; omega, fun hp => ?_⟩, fun x hx => h.2.2 x (List.mem_of_mem_drop (List.mem_of_mem_take hx))⟩
 obtain ⟨ad2, e, hb, hcell⟩ := h.2.1.2 (by omega)
 injection e with e
 subst e
 refine ⟨_, rfl, by rw [block_of_add]; exact hb, fun j u hu => ?_⟩
 rw [cCells_take, cCells_drop, List.getElem?_take] at hu
 split at hu
 ·
  rw [List.getElem?_drop] at hu
  rw [add_of_add]
  exact hcell _ u hu
 ·
  simp at hu
end
section
open Go.RowKit
theorem take_snoc {α : Type} (l : List α) (k : Nat) (x : α) (h : l[k]? = some x) : l.take (k + 1) = l.take k ++ [x] := by
 rw [List.take_add_one, h]; rfl
def isId (q : List UInt8) (c : Cl) : Bool := decide (c.id = q)
def findI (q : List UInt8) (cs : List Cl) : Option Nat := cs.findIdx? (isId q)
theorem cidx_some {p : Cl → Bool} {fs : List Cl} {k : Nat} {r : Cl} (h : ∀ j, j < k → ∀ r, fs[j]? = some r → p r = false) (hk : fs[k]? = some r) (hp : p r = true) : fs.findIdx? p = some k := by
 obtain ⟨hlt, e⟩ := List.getElem?_eq_some_iff.1 hk
 rw [List.findIdx?_eq_some_iff_getElem]
 refine ⟨hlt, by rw [e]; exact hp, fun j hj => ?_⟩
 rw [h j hj _ (List.getElem?_eq_getElem (by omega))]
 simp
theorem cidx_none {p : Cl → Bool} {fs : List Cl} (h : ∀ j, j < fs.length → ∀ r, fs[j]? = some r → p r = false) : fs.findIdx? p = none := by
 rw [List.findIdx?_eq_none_iff]
 intro x hx
 obtain ⟨j, hj, e⟩ := List.getElem_of_mem hx
 exact h j hj x (by rw [List.getElem?_eq_getElem hj, e])
def findV (q : List UInt8) (cs : List Cl) : Value := match findI q cs with
 | some k => .tuple #[.int .i64 ((k : Int) + 1), .bool true]
 | none => .tuple #[.int .i64 0, .bool false]
end
section
open Go.RowKit
theorem cl_id {w : World} {B n : Nat} {ad : Addr} {fs : List Cl} (h : Reads w B 4 (some ad) n (cCells fs)) {k : Nat} {f : Cl} (hk : fs[k]? = some f) : w.cell? (ad.add (k * 4)) = some (.string ⟨f.id.toArray⟩) := by
 have := cl_at h hk 0 _ rfl
 rwa [add_of_add, Nat.add_zero] at this
theorem rfind_walk (q : List UInt8) (cs : List Cl) (A : Option Addr) (c : Nat) (w : World) (hr : ClsAt w A c cs) (hm : cs.length ≤ 1000000) :
  Calls Tryz.prog 96 #[.slice A cs.length c, .string ⟨q.toArray⟩] w fun e w' => e = .returned (findV q cs) ∧ w = w' := by
 obtain ⟨hc, hr, _⟩ := hr
 go_enter Tryz.func96, Tryz.ntmps96
 go_wp2_with fail
 go_loopw [6] (fun nv wr => ∃ k : Nat, k ≤ cs.length ∧ nv = .int .i64 k ∧ Hid (∀ j, j < k → ∀ r, cs[j]? = some r → isId q r = false) ∧ w = wr) (fun nv _ => cs.length - (intOf nv).toNat)
 case atStart => exact ⟨0, by omega, rfl, fun j hj => by omega, rfl⟩
 case round =>
  obtain ⟨k, hk, rfl, hno, rfl⟩ := hrel
  by_cases hlt : k < cs.length
  ·
   obtain ⟨ad, rfl⟩ : ∃ ad, A = some ad := by obtain ⟨ad, h, _⟩ := hr.2 (by omega); exact ⟨ad, h⟩
   obtain ⟨r, hrk⟩ : ∃ r, cs[k]? = some r := ⟨cs[k], List.getElem?_eq_getElem hlt⟩
   have hid := cl_id hr hrk
   have he := eq_strL r.id q
   rw [show decide (r.id = q) = isId q r from rfl] at he
   generalize (⟨q.toArray⟩ : ByteArray) = y at he ⊢
   generalize hx : (⟨r.id.toArray⟩ : ByteArray) = x at he hid
   clear hx
   cases hp : isId q r
   ·
    have HN : Hid (∀ j, j < k + 1 → ∀ r, cs[j]? = some r → isId q r = false) := by
     show ∀ j, j < k + 1 → _
     intro j hj r' hr'
     rcases Nat.lt_or_ge j k with h | h
     ·
      exact hno.out j h r' hr'
     ·
      rw [show j = k by omega, hrk] at hr'
      injection hr' with e
      rw [← e]; exact hp
    rw [hp] at he
    clear hp
    go_wp2_with fail
    exact ⟨⟨k + 1, by omega, by go_num, HN, trivial⟩, by simp [intOf]; omega⟩
   ·
    have hv : Hid (findV q cs = .tuple #[.int .i64 ((k : Int) + 1), .bool true]) := by show _ = _; rw [findV, findI, cidx_some hno.out hrk hp]
    rw [hp] at he
    clear hp
    go_wp2_with fail
    go_ret2
    exact ⟨by rw [hv.out]; rfl, rfl⟩
  ·
   obtain rfl : k = cs.length := by omega
   have hv : Hid (findV q cs = .tuple #[.int .i64 0, .bool false]) := by show _ = _; rw [findV, findI, cidx_none hno.out]
   go_wp2_with fail
   go_ret2
   exact ⟨by rw [hv.out]; rfl, rfl⟩
end
section
open Go.RowKit
theorem boxC {g : Nat} {f : Cl} {W : World} (h : Blk W g 67 f.arr) : W.cell? ⟨g, 0, none⟩ = some (.string ⟨f.id.toArray⟩) ∧ W.cell? ⟨g, 1, none⟩ = some (.int .i64 f.sec) ∧ W.cell? ⟨g, 2, none⟩ = some (.slice f.ra f.red.length f.rc) ∧ W.cell? ⟨g, 3, none⟩ = some (.string ⟨f.sc.toArray⟩) := ⟨h.cell 0, h.cell 1, h.cell 2, h.cell 3⟩
theorem rknows_walk (f : Cl) (q : List UInt8) (w : World) (hr : StrsAt w f.ra f.rc f.red) (hm : f.red.length ≤ 1000000) :
  Calls Tryz.prog 114 #[.agg f.arr, .string ⟨q.toArray⟩] w fun e w' => e = .returned (.bool (f.red.contains q)) ∧ Below w.heap.size w w' := by
 have HB1 := Lib.hid ((Below.refl w.heap.size w).alloc (Nat.le_refl _) (.cells f.arr 67))
 have HK1 := Lib.hid (Blk.new w 67 f.arr)
 have hc2 := (boxC HK1.out).2.2.1
 have hgl := HK1.out.lt
 have HR := Lib.hid (hr.below ((Below.refl w.heap.size w).alloc (Nat.le_refl _) (.cells f.arr 67)))
 have hpc := hr.1
 clear hr
 go_enter Tryz.func114, Tryz.ntmps114
 go_wp2_with fail
 go_loopw [5] (fun iv wr => ∃ k : Nat, k ≤ f.red.length ∧ iv = .int .i64 k ∧ Hid (∀ j p, j < k → f.red[j]? = some p → p ≠ q) ∧ w.alloc (.cells f.arr 67) = wr) (fun iv _ => f.red.length - (intOf iv).toNat)
 case atStart => exact ⟨0, by omega, rfl, fun j p hj => by omega, rfl⟩
 case round =>
  obtain ⟨k, hk, rfl, hno, rfl⟩ := hrel
  by_cases hlt : k < f.red.length
  ·
   obtain ⟨p, hpk⟩ : ∃ p, f.red[k]? = some p := ⟨_, List.getElem?_eq_getElem hlt⟩
   obtain ⟨ad, hA, hcell⟩ := HR.out.get hpk
   rw [hA] at hc2
   have he := eq_strL p q
   generalize (⟨q.toArray⟩ : ByteArray) = y at he ⊢
   generalize hx : (⟨p.toArray⟩ : ByteArray) = x at he hcell
   clear hx
   by_cases hpq : p = q
   ·
    have hv : Hid (f.red.contains q = true) := by
     show _ = _
     rw [List.contains_iff_mem, ← hpq]
     exact List.mem_of_getElem? hpk
    rw [decide_eq_true hpq] at he
    clear hpq hpk
    go_wp2_with fail
    go_ret
    exact ⟨by rw [hv.out]; rfl, HB1.out⟩
   ·
    have HN : Hid (∀ j p, j < k + 1 → f.red[j]? = some p → p ≠ q) := by
     show ∀ j p, j < k + 1 → _
     intro j r hj hr
     rcases Nat.lt_or_ge j k with h | h
     ·
      exact hno.out j r h hr
     ·
      rw [show j = k by omega, hpk] at hr
      injection hr with e
      rw [← e]; exact hpq
    rw [decide_eq_false hpq] at he
    clear hpq hpk
    go_wp2_with fail
    exact ⟨⟨k + 1, by omega, by go_num, HN, trivial⟩, by simp [intOf]; omega⟩
  ·
   obtain rfl : k = f.red.length := by omega
   have hv : Hid (f.red.contains q = false) := by
    show _ = _
    rw [Bool.eq_false_iff, ne_eq, List.contains_iff_mem, List.mem_iff_getElem?]
    rintro ⟨j, hj⟩
    exact hno.out j q (List.getElem?_eq_some_iff.1 hj).1 hj rfl
   go_wp2_with fail
   go_ret
   exact ⟨by rw [hv.out]; rfl, HB1.out⟩
end
end C17
end Go.Proofs.YtnhjgocdepbajaaGreat

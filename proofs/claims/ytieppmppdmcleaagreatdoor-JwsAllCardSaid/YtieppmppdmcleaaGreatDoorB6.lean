/- countersignlaw12.Text, known; values off the tape at any depth; from what a row lays to what the walks ask for. Conditions: the laid variables. -/
import Derived.Test.YtieppmppdmcleaaGreatDoorLc
import Derived.Test.YtieppmppdmcleaaGreatDoorRows
import Derived.Lib.LaidU8
set_option linter.unusedVariables false
set_option linter.unusedSimpArgs false
set_option maxRecDepth 20000
namespace Go.Proofs.YtieppmppdmcleaaGreatDoor
section
open Go.RowKit Go.Maps
theorem tape_any : ∀ d, d ≤ 100 → TapeV d
 | 0, h => value_tape 0 h (fun d' e => by omega)
 | d + 1, h => value_tape (d + 1) h (fun d' e => by
  obtain rfl : d' = d := by omega
  exact tape_any d' (by omega))
theorem tape_new {w : World} {A : Option Addr} {c : Nat} {zs : List Int} (h : IntsIn w A c zs) :
  TapeAt (w.alloc (.cells #[.slice A zs.length c, .int .i64 0] 55)) w.heap.size zs 0 :=
 ⟨Nat.zero_le _, h.2.1, h.2.2.1, A, c, h.1, Blk.new _ _ _, h.2.2.2.alloc (Nat.le_refl _) _⟩
end
section
open Go.RowKit Go.Maps
theorem LaidB.up {w : World} {B : Nat} (h : LaidB w B) : LaidB w w.heap.size := by
 obtain ⟨h1, ⟨a, b, c⟩, h3⟩ := h
 exact ⟨Nat.le_refl _, ⟨by omega, by omega, by omega⟩, h3⟩
structure Val1 (w : World) (g : Nat) (v : Jv) (cs : List Value) (W : World) : Prop where
 blk : Blk W g 26 cs.toArray
 val : JvV W 0 v cs
theorem Val1.below {w : World} {g : Nat} {v : Jv} {cs : List Value} {W W' : World} (h : Val1 w g v cs W) (hb : Below W.heap.size W W') : Val1 w g v cs W' := ⟨h.blk.below hb h.blk.lt, h.val.below hb⟩
theorem Val1.new {w W : World} {v : Jv} {cs : List Value} {lo : Nat} (h : JvV W lo v cs) : Val1 w W.heap.size v cs (W.alloc (.cells cs.toArray 26)) :=
 ⟨Blk.new W _ _, (h.low (Nat.zero_le _)).below ((Below.refl W.heap.size W).alloc (Nat.le_refl _) _)⟩
structure St12 (w W : World) : Prop where
 laid : LaidB W W.heap.size
 below : Below w.heap.size w W
theorem St12.next {w W W' : World} (h : St12 w W) (hb : Below W.heap.size W W') : St12 w W' := ⟨(h.laid.below hb).up, below_next h.below hb⟩
theorem St12.alloc {w W : World} (h : St12 w W) (o : Obj) : St12 w (W.alloc o) := h.next ((Below.refl W.heap.size W).alloc (Nat.le_refl _) o)
theorem alloc_below (W : World) (o : Obj) : Below W.heap.size W (W.alloc o) := (Below.refl W.heap.size W).alloc (Nat.le_refl _) o
end
section
open Go.RowKit
theorem iface_of {H : Type} {enc : TypeId × Value → H} {P : Program} {w : World} {base : Nat} {sp : Nat → Bool} {fuel : Nat} {t : TypeId} {it : Array (String × TypeId)} {cs : List Value} {nm : String} {d : DataW H} {p : List MemPlace}
  (ht : P.underlying t = some (.interface it)) (h : DataW.trod enc P w base sp false fuel t cs = some (.iface nm d, p)) : ∃ u v, cs = [.iface u v] := by
 cases fuel with
 | zero => simp [DataW.trod] at h
 | succ fuel =>
  unfold DataW.trod at h
  rw [ht] at h
  split at h <;> first | (exact ⟨_, _, rfl⟩) | (simp_all; done)
theorem pow_data : (Rows.laid_internal_strconv_uint64pow10 : DataW Unit) = Lib.tabData .u64 Lib.pow10Tab := by kernel_rfl
theorem tab_type : (Tryz.prog.globals[5]?).map (·.type) = some 194 := by kernel_rfl
theorem tab_cells : Tryz.prog.cellsOf 183 = 1 ∧ Tryz.prog.cellsOf 194 = 20 := ⟨by kernel_rfl, by kernel_rfl⟩
theorem err_type : (Tryz.prog.globals[3]?).map (·.type) = some 70 ∧ (Tryz.prog.globals[4]?).map (·.type) = some 70 := ⟨by kernel_rfl, by kernel_rfl⟩
theorem tab_of {W : World} {l : List (String × DataW Unit)} (h : laidMet Tryz.prog l W) (hm : ("internal/strconv.uint64pow10", Rows.laid_internal_strconv_uint64pow10) ∈ l) : Tab W := by
 obtain ⟨g, t, cs, fuel, p, hg, ht, hvar, hd⟩ := Lib.laidMet.reads h hm
 obtain rfl := Option.some.inj (tab_named.symm.trans hg)
 obtain rfl := Option.some.inj (tab_type.symm.trans ht)
 rw [pow_data] at hd
 have hc := Lib.cells_of_tab Tryz.underlying194 Tryz.underlying183 tab_cells.1 tab_cells.2 hd
 show W.var? Tryz.prog "internal/strconv.uint64pow10" = _
 rw [hvar, ← hc]
theorem errS_of {W : World} {l : List (String × DataW Unit)} (h : laidMet Tryz.prog l W) (hm : ("strconv.ErrSyntax", Rows.laid_strconv_ErrSyntax) ∈ l) : ∃ tp p, W.var? Tryz.prog "strconv.ErrSyntax" = some #[.iface tp p] := by
 obtain ⟨g, t, cs, fuel, p, hg, ht, hvar, hd⟩ := Lib.laidMet.reads h hm
 obtain rfl := Option.some.inj (errS_named.symm.trans hg)
 obtain rfl := Option.some.inj (err_type.1.symm.trans ht)
 obtain ⟨u, v, e⟩ := iface_of Tryz.underlying70 hd
 exact ⟨u, v, by rw [hvar, ← e]⟩
theorem errR_of {W : World} {l : List (String × DataW Unit)} (h : laidMet Tryz.prog l W) (hm : ("strconv.ErrRange", Rows.laid_strconv_ErrRange) ∈ l) : ∃ tp p, W.var? Tryz.prog "strconv.ErrRange" = some #[.iface tp p] := by
 obtain ⟨g, t, cs, fuel, p, hg, ht, hvar, hd⟩ := Lib.laidMet.reads h hm
 obtain rfl := Option.some.inj (errR_named.symm.trans hg)
 obtain rfl := Option.some.inj (err_type.2.symm.trans ht)
 obtain ⟨u, v, e⟩ := iface_of Tryz.underlying70 hd
 exact ⟨u, v, by rw [hvar, ← e]⟩
theorem laidB_of {W : World} {l : List (String × DataW Unit)} (h : laidMet Tryz.prog l W) (h1 : ("internal/strconv.uint64pow10", Rows.laid_internal_strconv_uint64pow10) ∈ l) (h2 : ("strconv.ErrSyntax", Rows.laid_strconv_ErrSyntax) ∈ l) (h3 : ("strconv.ErrRange", Rows.laid_strconv_ErrRange) ∈ l) : LaidB W W.heap.size := by
 obtain ⟨tp, p, e⟩ := errS_of h h2
 obtain ⟨tp2, p2, e2⟩ := errR_of h h3
 exact ⟨Nat.le_refl _, ⟨var_lt tab_named (tab_of h h1), var_lt errS_named e, var_lt errR_named e2⟩, tab_of h h1, ⟨tp, p, e⟩, ⟨tp2, p2, e2⟩⟩
end
end Go.Proofs.YtieppmppdmcleaaGreatDoor
/- json.Get and countersignref12.Get, and where their values' rows lie. Conditions: small values. -/
namespace Go.Proofs.YtieppmppdmcleaaGreatDoor
open Go.RowKit Go.Maps
theorem JvP.form {w : World} {D : Nat → Prop} {t : Jv} {cs : List Value} (h : JvP w D t cs) : ∃ (kd : Int) (b : Bool) (nm : Int) (s : ByteArray) (NA : Option Addr) (nn nc : Nat) (A : Option Addr) (m cp : Nat), cs = [.int .i64 kd, .bool b, .int .i64 nm, .string s, .slice NA nn nc, .slice A m cp] := by
 cases t
 rw [JvP] at h
 obtain ⟨NA, nc, A, c, vs, rfl, _⟩ := h
 exact ⟨_, _, _, _, _, _, _, _, _, _, rfl⟩
theorem JvsP.get {w : World} {D : Nat → Prop} : ∀ {ts : List Jv} {vs : List (List Value)} {i : Nat} {k : Jv}, JvsP w D ts vs → ts[i]? = some k → ∃ v, vs[i]? = some v ∧ JvP w D k v
 | [], _, _, _, _, h => by simp at h
 | t :: ts, vs, 0, k, h, hk => by
  rw [JvsP] at h
  obtain ⟨v, vs', rfl, h2, _⟩ := h
  simp at hk
  subst hk
  exact ⟨v, rfl, h2⟩
 | t :: ts, vs, i + 1, k, h, hk => by
  rw [JvsP] at h
  obtain ⟨v, vs', rfl, _, h3⟩ := h
  obtain ⟨u, hu, h4⟩ := JvsP.get h3 (by simpa using hk)
  exact ⟨u, by simpa using hu, h4⟩
structure StA (w : World) (L : List (Nat × Jv × List Value)) (M : List (Nat × TypeId × Array Value)) (W : World) : Prop where
 laid : LaidB W W.heap.size
 below : Below w.heap.size w W
 vals : ∀ p ∈ L, Blk W p.1 26 p.2.2.toArray ∧ JvV W 0 p.2.1 p.2.2
 blks : ∀ p ∈ M, Blk W p.1 p.2.1 p.2.2
section
variable {w W W' : World} {L : List (Nat × Jv × List Value)} {M : List (Nat × TypeId × Array Value)}
theorem StA.next (h : StA w L M W) (hb : Below W.heap.size W W') : StA w L M W' :=
 ⟨(h.laid.below hb).up, below_next h.below hb, fun p hp => ⟨(h.vals p hp).1.below hb (h.vals p hp).1.lt, (h.vals p hp).2.below hb⟩, fun p hp => (h.blks p hp).below hb (h.blks p hp).lt⟩
theorem StA.alloc (h : StA w L M W) (o : Obj) : StA w L M (W.alloc o) := h.next (alloc_below W o)
theorem StA.block (h : StA w L M W) (t : TypeId) (cs : Array Value) : StA w L ((W.heap.size, t, cs) :: M) (W.alloc (.cells cs t)) := by
 have h2 := h.alloc (.cells cs t)
 refine ⟨h2.laid, h2.below, h2.vals, fun p hp => ?_⟩
 rcases List.mem_cons.1 hp with rfl | hp
 ·
  exact Blk.new W t cs
 ·
  exact h2.blks p hp
theorem StA.value (h : StA w L M W) {v : Jv} {cs : List Value} {lo : Nat} (hv : JvV W lo v cs) : StA w ((W.heap.size, v, cs) :: L) M (W.alloc (.cells cs.toArray 26)) := by
 have h2 := h.alloc (.cells cs.toArray 26)
 refine ⟨h2.laid, h2.below, fun p hp => ?_, h2.blks⟩
 rcases List.mem_cons.1 hp with rfl | hp
 ·
  exact ⟨Blk.new W _ _, (hv.below (alloc_below W _)).low (Nat.zero_le _)⟩
 ·
  exact h2.vals p hp
theorem JvP.below {D : Nat → Prop} {v : Jv} {cs : List Value} (h : JvP W D v cs) (hb : Below W.heap.size W W') : JvP W' D v cs := JvP.keep (fun p hp _ => hb.cell hp) (fun _ _ h => h) hb.size _ _ h
structure StB (B0 : Nat) (w : World) (L : List (Nat × Jv × List Value)) (M : List (Nat × TypeId × Array Value)) (W : World) : Prop where
 st : StA w L M W
 laid : LaidB W B0
 rows : ∀ p ∈ L, p.1 < B0 ∧ JvP W (fun b => b < B0) p.2.1 p.2.2
 blks : ∀ p ∈ M, p.1 < B0
 le : B0 ≤ W.heap.size
 lo : w.heap.size ≤ B0
theorem StB.next {B0 : Nat} (h : StB B0 w L M W) (hb : Below W.heap.size W W') : StB B0 w L M W' :=
 ⟨h.st.next hb, h.laid.below hb, fun p hp => ⟨(h.rows p hp).1, (h.rows p hp).2.below hb⟩, h.blks, Nat.le_trans h.le hb.size, h.lo⟩
theorem StB.alloc {B0 : Nat} (h : StB B0 w L M W) (o : Obj) : StB B0 w L M (W.alloc o) := h.next (alloc_below W o)
theorem StB.put {B0 b : Nat} {Z : Array Value} {v : Jv} {cs : List Value} (h : StB B0 w L M W) (hB : B0 ≤ b) (hk : Blk W b 26 Z) (hv : JvP W (fun x => x ≠ b) v cs) : StA w ((b, v, cs) :: L) M (W.setRow b cs.toArray) := by
 have hsr := setRow_only W b cs.toArray
 have hcell : ∀ q : Addr, q.block ≠ b → (W.setRow b cs.toArray).cell? q = W.cell? q := fun q hq => by
  rcases Nat.lt_or_ge q.block W.heap.size with h1 | h1
  ·
   exact World.cell?_of_block (hsr.block _ h1 (fun e => hq (by injection e)))
  ·
   have h2 := hsr.size
   have h3 : (W.setRow b cs.toArray).heap.size = W.heap.size := by simp [World.setRow]
   unfold World.cell?
   rw [Array.getElem?_eq_none (by omega), Array.getElem?_eq_none h1]
 have hlo := h.lo
 refine ⟨(h.laid.grown hsr (fun q e => by injection e with e; omega)).up, below_setRow h.st.below (by omega) _, fun p hp => ?_, fun p hp => ?_⟩
 ·
  rcases List.mem_cons.1 hp with rfl | hp
  ·
   exact ⟨hk.setRow, JvP.toV (fun _ _ => Nat.zero_le _) _ _ (JvP.keep (D' := fun x => x ≠ b) (fun q _ hd => hcell q hd) (fun _ _ h => h) hsr.size _ _ hv)⟩
  ·
   have h1 := h.rows p hp
   exact ⟨(h.st.vals p hp).1.grown hsr (fun e => by injection e with e; omega), JvP.toV (fun _ _ => Nat.zero_le _) _ _ (JvP.keep (D' := fun _ => True) (fun q _ (hd : q.block < B0) => hcell q (by omega)) (fun _ _ _ => trivial) hsr.size _ _ h1.2)⟩
 ·
  have h1 := h.blks p hp
  exact (h.st.blks p hp).grown hsr (fun e => by injection e with e; omega)
theorem StA.sub (h : StA w L M W) {L' : List (Nat × Jv × List Value)} {M' : List (Nat × TypeId × Array Value)} (hl : ∀ p ∈ L', p ∈ L) (hm : ∀ p ∈ M', p ∈ M) : StA w L' M' W := ⟨h.laid, h.below, fun p hp => h.vals p (hl p hp), fun p hp => h.blks p (hm p hp)⟩
theorem StA.cells (h : StA w L M W) {g : Nat} {v : Jv} {cs : List Value} (hp : (g, v, cs) ∈ L) : ∀ j u, cs[j]? = some u → W.cell? ((⟨g, 0, none⟩ : Addr).add j) = some u := blk_cells (h.vals _ hp).1
end
end Go.Proofs.YtieppmppdmcleaaGreatDoor
namespace Go.Proofs.YtieppmppdmcleaaGreatDoor
open Go.RowKit
def BRow (e : TypeId) (w : World) (g : Nat) (l : List UInt8) : Prop := ∃ cs fz, w.heap[g]? = some (.cells cs e fz) ∧ l.length ≤ fz.1 ∧ l.length ≤ cs.size ∧ ∀ j, j < l.length → cs[j]? = some (.int .u8 ((l.getD j 0).toNat : Int))
theorem BRow.lt {e : TypeId} {w : World} {g : Nat} {l : List UInt8} (h : BRow e w g l) : g < w.heap.size := by
 obtain ⟨cs, fz, hh, _⟩ := h
 exact (Array.getElem?_eq_some_iff.1 hh).1
theorem BRow.cell {e : TypeId} {w : World} {g : Nat} {l : List UInt8} (h : BRow e w g l) {j : Nat} (hj : j < l.length) : w.cell? ⟨g, j, none⟩ = some (.int .u8 ((l.getD j 0).toNat : Int)) := by
 obtain ⟨cs, fz, hh, _, _, hc⟩ := h
 simp [World.cell?, hh, hc j hj]
theorem BRow.frozen {e : TypeId} {w : World} {g : Nat} {l : List UInt8} (h : BRow e w g l) {j : Nat} (hj : j < l.length) : w.frozen? ⟨g, j, none⟩ = false := by
 obtain ⟨cs, fz, hh, hf, _, _⟩ := h
 simp [World.frozen?, hh]
 omega
theorem BRow.set_ {e : TypeId} {w : World} {g : Nat} {l : List UInt8} (h : BRow e w g l) {j : Nat} (hj : j < l.length) (x : Nat) (hx : x < 256) : BRow e (w.setCell ⟨g, j, none⟩ (.int .u8 (x : Int))) g (l.set j (UInt8.ofNat x)) := by
 obtain ⟨cs, fz, hh, hf, hs, hc⟩ := h
 refine ⟨cs.setIfInBounds j (.int .u8 (x : Int)), fz, by simp [World.setCell, Array.getElem?_modify, hh], by simpa using hf, by simpa using hs, fun i hi => ?_⟩
 simp only [List.length_set] at hi
 by_cases hij : i = j
 ·
  subst hij
  rw [Array.getElem?_setIfInBounds_self_of_lt (by omega)]
  simp [hi]
  omega
 ·
  rw [Array.getElem?_setIfInBounds_ne (fun e => hij e.symm), hc i hi]
  simp [List.getElem?_set, Ne.symm hij]
theorem BRow.reads {e : TypeId} {w : World} {g : Nat} {l : List UInt8} (h : BRow e w g l) : Reads w w.heap.size 1 (some ⟨g, 0, none⟩) l.length (Lib.byteCells l) := by
 refine ⟨by rw [Lib.byteCells_length]; omega, fun _ => ⟨_, rfl, h.lt, fun j u hu => ?_⟩⟩
 have hj : j < l.length := by
  have := (List.getElem?_eq_some_iff.1 hu).1
  rwa [Lib.byteCells_length] at this
 rw [show ((⟨g, 0, none⟩ : Addr).add j) = ⟨g, j, none⟩ by unfold Addr.add; split <;> simp_all, h.cell hj, ← hu]
 simp [Lib.byteCells, List.getD, List.getElem?_eq_getElem hj]
theorem BRow.new (e : TypeId) (w : World) (l : List UInt8) : BRow e (Lib.bytesWorld w e ⟨l.toArray⟩) w.heap.size l := by
 refine ⟨_, _, Lib.bytesWorld_at_new w e ⟨l.toArray⟩, ?_, ?_, fun j hj => ?_⟩
 ·
  simp [Lib.bytesCells]
 ·
  simp [Lib.bytesCells]
 ·
  have := Lib.bytesWorld_cell w e ⟨l.toArray⟩ j (show j < l.toArray.size by simpa using hj)
  simpa [World.cell?, Lib.bytesWorld_at_new] using this
theorem below_bytes (e : TypeId) (w : World) (l : List UInt8) : Below w.heap.size w (Lib.bytesWorld w e ⟨l.toArray⟩) :=
 ⟨by simp [Lib.bytesWorld, World.freeze]; rfl, by simp [Lib.bytesWorld, World.freeze]; try rfl, by simp [Lib.bytesWorld, World.freeze]; rfl, by rw [Lib.bytesWorld_size]; omega, fun k hk => Lib.bytesWorld_at_old w e _ k hk⟩
theorem BRow.below {e : TypeId} {B : Nat} {w w' : World} {g : Nat} {l : List UInt8} (h : BRow e w g l) (hb : Below B w w') (hg : g < B) : BRow e w' g l := by
 obtain ⟨cs, fz, hh, r⟩ := h
 exact ⟨cs, fz, (hb.block g hg).trans hh, r⟩
end Go.Proofs.YtieppmppdmcleaaGreatDoor

/- Several texts in one. No condition of its own. -/
import Derived.Test.YtokgkifckgnabaaGreatDoorKit
import Derived.Lib.ConvBytes
set_option linter.unusedVariables false
set_option linter.unusedSimpArgs false
set_option maxRecDepth 20000
namespace Go.Proofs.YtokgkifckgnabaaGreatDoor
open Go.RowKit
/-- what a law is told of numbers that came in -/
def IntsIn (w : World) (A : Option Addr) (c : Nat) (zs : List Int) : Prop :=
  zs.length ≤ c ∧ zs.length ≤ 9223372036854775807 ∧ (∀ z ∈ zs, -9223372036854775808 ≤ z ∧ z ≤ 9223372036854775807) ∧ Reads w w.heap.size 1 A zs.length (zs.map (Value.int .i64))
theorem IntsIn.below {w w' : World} {A : Option Addr} {c : Nat} {zs : List Int} (h : IntsIn w A c zs) (hb : Below w.heap.size w w') : IntsIn w' A c zs :=
  ⟨h.1, h.2.1, h.2.2.1, (h.2.2.2.below hb).more hb.size⟩
theorem IsRow.intsIn {w : World} {a : Option Addr} {len cap : Nat} {zs : List Int} (h : IsRow .i64 w a len cap zs) : ∃ l : List Int, len = l.length ∧ IntsIn w a cap l := by
  obtain ⟨h1, h2, h3, h4⟩ := h.ints
  have hcap : cap ≤ 9223372036854775807 := by
    rcases h with ⟨_, _, rfl, _⟩ | ⟨x, _, _, hm, _⟩
    · omega
    · simpa [maxLen] using hm
  refine ⟨zs.take len, h3.symm, by omega, by omega, fun z hz => ?_, ?_⟩
  · have := h4 z hz
    simpa [Lit.wf, IntKind.min, IntKind.max, IntKind.signed, IntKind.bits] using this
  · rw [h3]; exact h1
theorem i64_wf {a : Int} (h : (Lit.int .i64 a).wf = true) : -9223372036854775808 ≤ a ∧ a ≤ 9223372036854775807 := by
  simpa [Lit.wf, IntKind.min, IntKind.max, IntKind.signed, IntKind.bits] using h
theorem u8_wf {a : Int} (h : (Lit.int .u8 a).wf = true) : 0 ≤ a ∧ a ≤ 255 := by
  simpa [Lit.wf, IntKind.min, IntKind.max, IntKind.signed, IntKind.bits] using h
end Go.Proofs.YtokgkifckgnabaaGreatDoor
set_option linter.unusedVariables false
set_option linter.unusedSimpArgs false
set_option maxRecDepth 20000
namespace Go.Proofs.YtokgkifckgnabaaGreatDoor
open Go.RowKit
/-- a row of bytes that a conversion made: nothing but the place behind its end is marked -/
def BRow (e : TypeId) (w : World) (g : Nat) (l : List UInt8) : Prop := ∃ cs fz, w.heap[g]? = some (.cells cs e fz) ∧ l.length ≤ fz.1 ∧ l.length ≤ cs.size ∧ ∀ j, j < l.length → cs[j]? = some (.int .u8 ((l.getD j 0).toNat : Int))
theorem BRow.lt {e : TypeId} {w : World} {g : Nat} {l : List UInt8} (h : BRow e w g l) : g < w.heap.size := by
  obtain ⟨cs, fz, hh, _⟩ := h
  exact (Array.getElem?_eq_some_iff.1 hh).1
theorem BRow.cell {e : TypeId} {w : World} {g : Nat} {l : List UInt8} (h : BRow e w g l) {j : Nat} (hj : j < l.length) : w.cell? ⟨g, j, none⟩ = some (.int .u8 ((l.getD j 0).toNat : Int)) := by
  obtain ⟨cs, fz, hh, _, _, hc⟩ := h
  simp [World.cell?, hh, hc j hj]
theorem BRow.frozen {e : TypeId} {w : World} {g : Nat} {l : List UInt8} (h : BRow e w g l) {j : Nat} (hj : j < l.length) : w.frozen? ⟨g, j, none⟩ = false := by
  obtain ⟨cs, fz, hh, hf, _, _⟩ := h
  simp [World.frozen?, hh]
  omega
theorem BRow.set_ {e : TypeId} {w : World} {g : Nat} {l : List UInt8} (h : BRow e w g l) {j : Nat} (hj : j < l.length) (x : Nat) (hx : x < 256) : BRow e (w.setCell ⟨g, j, none⟩ (.int .u8 (x : Int))) g (l.set j (UInt8.ofNat x)) := by
  obtain ⟨cs, fz, hh, hf, hs, hc⟩ := h
  refine ⟨cs.setIfInBounds j (.int .u8 (x : Int)), fz, by simp [World.setCell, Array.getElem?_modify, hh], by simpa using hf, by simpa using hs, fun i hi => ?_⟩
  simp only [List.length_set] at hi
  by_cases hij : i = j
  · subst hij
    rw [Array.getElem?_setIfInBounds_self_of_lt (by omega)]
    simp [hi]
    omega
  · rw [Array.getElem?_setIfInBounds_ne (fun e => hij e.symm), hc i hi]
    simp [List.getElem?_set, Ne.symm hij]
theorem BRow.reads {e : TypeId} {w : World} {g : Nat} {l : List UInt8} (h : BRow e w g l) : Reads w w.heap.size 1 (some ⟨g, 0, none⟩) l.length (Lib.byteCells l) := by
  refine ⟨by rw [Lib.byteCells_length]; omega, fun _ => ⟨_, rfl, h.lt, fun j u hu => ?_⟩⟩
  have hj : j < l.length := by
    have := (List.getElem?_eq_some_iff.1 hu).1
    rwa [Lib.byteCells_length] at this
  rw [show ((⟨g, 0, none⟩ : Addr).add j) = ⟨g, j, none⟩ by unfold Addr.add; split <;> simp_all, h.cell hj, ← hu]
  simp [Lib.byteCells, List.getD, List.getElem?_eq_getElem hj]
theorem BRow.new (e : TypeId) (w : World) (l : List UInt8) : BRow e (Lib.bytesWorld w e ⟨l.toArray⟩) w.heap.size l := by
  refine ⟨_, _, Lib.bytesWorld_at_new w e ⟨l.toArray⟩, ?_, ?_, fun j hj => ?_⟩
  · simp [Lib.bytesCells]
  · simp [Lib.bytesCells]
  · have := Lib.bytesWorld_cell w e ⟨l.toArray⟩ j (show j < l.toArray.size by simpa using hj)
    simpa [World.cell?, Lib.bytesWorld_at_new] using this
theorem below_bytes (e : TypeId) (w : World) (l : List UInt8) : Below w.heap.size w (Lib.bytesWorld w e ⟨l.toArray⟩) :=
  ⟨by simp [Lib.bytesWorld, World.freeze]; rfl, by simp [Lib.bytesWorld, World.freeze]; try rfl, by simp [Lib.bytesWorld, World.freeze]; rfl, by rw [Lib.bytesWorld_size]; omega, fun k hk => Lib.bytesWorld_at_old w e _ k hk⟩
theorem BRow.below {e : TypeId} {B : Nat} {w w' : World} {g : Nat} {l : List UInt8} (h : BRow e w g l) (hb : Below B w w') (hg : g < B) : BRow e w' g l := by
  obtain ⟨cs, fz, hh, r⟩ := h
  exact ⟨cs, fz, (hb.block g hg).trans hh, r⟩
end Go.Proofs.YtokgkifckgnabaaGreatDoor
set_option linter.unusedVariables false
set_option linter.unusedSimpArgs false
set_option maxRecDepth 20000
namespace Go.Proofs.YtokgkifckgnabaaGreatDoor
open Go.RowKit
/-- what a law is told of bytes that came in -/
def BytesIn (w : World) (A : Option Addr) (c : Nat) (l : List UInt8) : Prop :=
  l.length ≤ c ∧ c ≤ 9223372036854775807 ∧ Reads w w.heap.size 1 A l.length (Lib.byteCells l)
theorem BytesIn.below {w w' : World} {A : Option Addr} {c : Nat} {l : List UInt8} (h : BytesIn w A c l) (hb : Below w.heap.size w w') : BytesIn w' A c l :=
  ⟨h.1, h.2.1, (h.2.2.below hb).more hb.size⟩
theorem IsRow.bytesIn {w : World} {a : Option Addr} {len cap : Nat} {zs : List Int} (h : IsRow .u8 w a len cap zs) : ∃ l : List UInt8, len = l.length ∧ BytesIn w a cap l := by
  obtain ⟨l, hr, hc⟩ := h.bytes
  have hl := hr.get
  have hcap : cap ≤ 9223372036854775807 := by
    rcases h with ⟨_, _, rfl, _⟩ | ⟨x, _, _, hm, _⟩
    · omega
    · simpa [maxLen] using hm
  subst hl
  exact ⟨l, rfl, hc, hcap, hr⟩
theorem own_cap {w : World} {base : Nat} {e : TypeId} {size n c : Nat} {A : Option Addr} {xs : List Value} (h : w.ownsRow base e size (.slice A n c) n xs) : c ≤ 9223372036854775807 := by
  rcases h.2 with ⟨h, _⟩ | ⟨_, _, _, h, _, _, _, h2, _⟩
  · injection h with _ _ h; omega
  · injection h with _ _ h; subst h; simpa [maxLen] using h2
section
variable {P : Program} (w : World)
/-- append of whatever slice onto a row of the call's own, the value a slice written out, in a list of operations -/
theorem wpList_append_sl {ops : Array Oper} {rest : List Oper} {o : Oper} {a : Act} {Q : Exit → Act → World → Prop} (hgd : o.guard = none) (s x : Operand) (t : TypeId)
    (ho : o.op = .call { callee := .builtin .append, args := #[s, x], argTypes := #[t, t] })
    (base : Nat) (e : TypeId) (i : TypeInfo) (z : Value) (size bytes : Nat) (ht : P.underlying t = some (.slice e)) (hi : P.info? e = some i) (hz : i.zero = some z)
    (hsize : i.size = size) (hby : i.bytes = bytes) (hzs : z.cells.size = size) (hsz : 0 < size)
    (v : Value) (n : Nat) (xs : List Value) (hs : a.eval s = v) (hown : w.ownsRow base e size v n xs)
    (B : Nat) (A : Option Addr) (m c : Nat) (news : List Value) (hx : a.eval x = .slice A m c) (hr : Reads w B size A m news) (h1 : ∀ u ∈ news, u.oneCell' = true)
    (h63 : n + m ≤ maxLen) (hbytes : (n + m) * bytes ≤ 140737488355328) (hbase : base ≤ w.heap.size)
    (N : Nat) (hN : n + m = N) (ys : List Value) (hys : xs ++ news = ys)
    (h : ∀ A' c' w', N ≤ c' → w'.ownsRow base e size (.slice A' N c') N ys → w.grownBy w' v.ownBlock → wpList P ops Q rest (a.put o.dst (.slice A' N c')) w') : wpList P ops Q (o :: rest) a w := by
  subst hN hys
  refine wpList_append_any w hgd s x t ho base e i z size bytes ht hi hz hsize hby hzs hsz v n xs hs hown B A m c news hx hr h1 h63 hbytes hbase fun v' w' h2 h3 _ => ?_
  obtain ⟨A', c', rfl, hc, _⟩ := own_reads h2 (Nat.le_refl _)
  exact h A' c' w' hc h2 h3
end
theorem byteCells_ones (l : List UInt8) : ∀ u ∈ Lib.byteCells l, u.oneCell' = true := by
  intro u hu
  simp [Lib.byteCells] at hu
  obtain ⟨b, _, rfl⟩ := hu
  rfl
end Go.Proofs.YtokgkifckgnabaaGreatDoor

import Derived.Test.YtekbdfnbnpmclaaDoorKit
import Derived.Lib.ConvBytes
set_option linter.unusedVariables false
set_option linter.unusedSimpArgs false
set_option maxRecDepth 20000
namespace Go.Proofs.YtekbdfnbnpmclaaDoor
open Go.RowKit
/-- a row of bytes that a conversion made: nothing but the place behind its end is marked -/
def BRow (e : TypeId) (w : World) (g : Nat) (l : List UInt8) : Prop := ∃ cs fz, w.heap[g]? = some (.cells cs e fz) ∧ l.length ≤ fz.1 ∧ l.length ≤ cs.size ∧ ∀ j, j < l.length → cs[j]? = some (.int .u8 ((l.getD j 0).toNat : Int))
theorem BRow.lt {e : TypeId} {w : World} {g : Nat} {l : List UInt8} (h : BRow e w g l) : g < w.heap.size := by
  obtain ⟨cs, fz, hh, _⟩ := h
  exact (Array.getElem?_eq_some_iff.1 hh).1
theorem BRow.cell {e : TypeId} {w : World} {g : Nat} {l : List UInt8} (h : BRow e w g l) {j : Nat} (hj : j < l.length) : w.cell? ⟨g, j, none⟩ = some (.int .u8 ((l.getD j 0).toNat : Int)) := by
  obtain ⟨cs, fz, hh, _, _, hc⟩ := h
  simp [World.cell?, hh, hc j hj]
theorem BRow.frozen {e : TypeId} {w : World} {g : Nat} {l : List UInt8} (h : BRow e w g l) {j : Nat} (hj : j < l.length) : w.frozen? ⟨g, j, none⟩ = false := by
  obtain ⟨cs, fz, hh, hf, _, _⟩ := h
  simp [World.frozen?, hh]
  omega
theorem BRow.set_ {e : TypeId} {w : World} {g : Nat} {l : List UInt8} (h : BRow e w g l) {j : Nat} (hj : j < l.length) (x : Nat) (hx : x < 256) : BRow e (w.setCell ⟨g, j, none⟩ (.int .u8 (x : Int))) g (l.set j (UInt8.ofNat x)) := by
  obtain ⟨cs, fz, hh, hf, hs, hc⟩ := h
  refine ⟨cs.setIfInBounds j (.int .u8 (x : Int)), fz, by simp [World.setCell, Array.getElem?_modify, hh], by simpa using hf, by simpa using hs, fun i hi => ?_⟩
  simp only [List.length_set] at hi
  by_cases hij : i = j
  · subst hij
    rw [Array.getElem?_setIfInBounds_self_of_lt (by omega)]
    simp [hi]
    omega
  · rw [Array.getElem?_setIfInBounds_ne (fun e => hij e.symm), hc i hi]
    simp [List.getElem?_set, Ne.symm hij]
theorem BRow.reads {e : TypeId} {w : World} {g : Nat} {l : List UInt8} (h : BRow e w g l) : Reads w w.heap.size 1 (some ⟨g, 0, none⟩) l.length (Lib.byteCells l) := by
  refine ⟨by rw [Lib.byteCells_length]; omega, fun _ => ⟨_, rfl, h.lt, fun j u hu => ?_⟩⟩
  have hj : j < l.length := by
    have := (List.getElem?_eq_some_iff.1 hu).1
    rwa [Lib.byteCells_length] at this
  rw [show ((⟨g, 0, none⟩ : Addr).add j) = ⟨g, j, none⟩ by unfold Addr.add; split <;> simp_all, h.cell hj, ← hu]
  simp [Lib.byteCells, List.getD, List.getElem?_eq_getElem hj]
theorem BRow.new (e : TypeId) (w : World) (l : List UInt8) : BRow e (Lib.bytesWorld w e ⟨l.toArray⟩) w.heap.size l := by
  refine ⟨_, _, Lib.bytesWorld_at_new w e ⟨l.toArray⟩, ?_, ?_, fun j hj => ?_⟩
  · simp [Lib.bytesCells]
  · simp [Lib.bytesCells]
  · have := Lib.bytesWorld_cell w e ⟨l.toArray⟩ j (show j < l.toArray.size by simpa using hj)
    simpa [World.cell?, Lib.bytesWorld_at_new] using this
theorem below_bytes (e : TypeId) (w : World) (l : List UInt8) : Below w.heap.size w (Lib.bytesWorld w e ⟨l.toArray⟩) :=
  ⟨by simp [Lib.bytesWorld, World.freeze]; rfl, by simp [Lib.bytesWorld, World.freeze]; try rfl, by simp [Lib.bytesWorld, World.freeze]; rfl, by rw [Lib.bytesWorld_size]; omega, fun k hk => Lib.bytesWorld_at_old w e _ k hk⟩
theorem BRow.below {e : TypeId} {B : Nat} {w w' : World} {g : Nat} {l : List UInt8} (h : BRow e w g l) (hb : Below B w w') (hg : g < B) : BRow e w' g l := by
  obtain ⟨cs, fz, hh, r⟩ := h
  exact ⟨cs, fz, (hb.block g hg).trans hh, r⟩
end Go.Proofs.YtekbdfnbnpmclaaDoor

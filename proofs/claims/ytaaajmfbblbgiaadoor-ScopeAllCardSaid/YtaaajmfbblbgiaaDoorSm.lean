/- ScopeAll. No condition of its own. -/
import Derived.Test.YtaaajmfbblbgiaaDoorSl
set_option linter.unusedVariables false
set_option linter.unusedSimpArgs false
set_option maxRecDepth 20000
namespace Go.Proofs.YtaaajmfbblbgiaaDoor
open Go.RowKit
/-- a row of texts, each not long -/
def RowT (w : World) (g : Nat) (L : List ByteArray) : Prop := g < w.heap.size ∧ ∀ j x, L[j]? = some x → w.cell? ⟨g, j, none⟩ = some (.string x)
theorem RowT.below {w w' : World} {g : Nat} {L : List ByteArray} (h : RowT w g L) {B : Nat} (hb : Below B w w') (hg : g < B) : RowT w' g L :=
  ⟨by have := h.1; have := hb.size; omega, fun j p hp => (hb.cell hg).trans (h.2 j p hp)⟩
theorem RowT.new (w : World) (t : TypeId) (L : List ByteArray) : RowT (w.alloc (.cells (L.map Value.string).toArray t)) w.heap.size L :=
  ⟨by simp, fun j x hx => by rw [(Blk.new w t (L.map Value.string).toArray).cell j]; simp [hx]⟩
/-- what region 17 does: both Withins of two texts -/
theorem parse_any {ps : List (List UInt8)} {w w' : World} {e : Ending} (h : ParseR ps w e w') : ∃ A n c, e = .returned (.tuple #[.slice A n c, .int .i64 (scopeE ps : Int)]) ∧ n = (wordsS ps).length ∧ RowV w' A (wordsS ps) ∧ Below w.heap.size w w' := by
  obtain ⟨hb, ⟨h0, g, c, he, _, h1, h2, hr⟩ | ⟨hn, he⟩⟩ := h
  · have hw : wordsS ps = ps := if_pos h0
    exact ⟨_, _, c, by rw [he, h0]; rfl, by rw [hw], by rw [hw]; exact RowV.of hr, hb⟩
  · have hw : wordsS ps = [] := if_neg hn
    exact ⟨none, 0, 0, he, by rw [hw]; rfl, by rw [hw]; exact RowV.nil _, hb⟩
theorem RowV.below {w w' : World} {A : Option Addr} {ps : List (List UInt8)} (h : RowV w A ps) (hb : Below w.heap.size w w') : RowV w' A ps := fun hp => by
  obtain ⟨g, e, hg⟩ := h hp
  exact ⟨g, e, hg.below hb hg.1⟩
theorem words_len (ps : List (List UInt8)) : (wordsS ps).length ≤ 8 := by
  unfold wordsS
  split
  · exact ok_len (by assumption)
  · simp
end Go.Proofs.YtaaajmfbblbgiaaDoor

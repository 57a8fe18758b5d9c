/- Fields and texts that come in as arguments, read from memory. No condition of its own. -/
import Derived.Test.YtolfcpbcccbmmaaDoorHa
import Derived.Deep.Slices
import Derived.WalkKit
import Derived.ProofKit
set_option linter.unusedVariables false
set_option linter.unusedSimpArgs false
set_option maxRecDepth 20000
namespace Go.Proofs.YtolfcpbcccbmmaaDoor
open Go.RowKit Go.ChangeShapes Go.WideShapes Go.ChangeAt
section
variable {H : Type} {enc : TypeId × Value → H} {w : World} {base n : Nat} {spare : Nat → Bool} {held : Bool}
theorem cell_string {c : Value} {x : DataW H × List MemPlace} (h : DataW.trod enc Tryd.prog w base spare held n 9 [c] = some x) : ∃ v, c = .string v := by
  obtain ⟨v, hv, _⟩ := DataW.trod_string Tryd.underlying9 h
  injection hv with e _
  exact ⟨v, e⟩
theorem cells_string : Tryd.prog.cellsOf 9 = 1 := by kernel_rfl
theorem cells_field : Tryd.prog.cellsOf 28 = 2 := by kernel_rfl
theorem some_of {α : Type} {l : List α} {i : Nat} (h : i < l.length) : ∃ x, l[i]? = some x := ⟨l[i], List.getElem?_eq_getElem h⟩
theorem field_trod {cs : List Value} {x : DataW H × List MemPlace} (h : DataW.trod enc Tryd.prog w base spare held n 28 cs = some x) : ∃ r : Fl, cs = r.cells := by
  obtain ⟨xs, k, _, _, hlen, hl, hf⟩ := DataW.trod_struct Tryd.underlying28 h
  rw [cells_field] at hlen
  obtain ⟨x0, e0⟩ := some_of (l := xs) (i := 0) (by rw [hl]; decide)
  obtain ⟨x1, e1⟩ := some_of (l := xs) (i := 1) (by rw [hl]; decide)
  have g0 := (hf 0 _ rfl).trans e0
  have g1 := (hf 1 _ rfl).trans e1
  clear hf e0 e1
  match cs, hlen with
  | [c0, c1], _ =>
    simp only [List.getElem_toArray, List.getElem_cons_zero, List.getElem_cons_succ, cells_string, List.drop_zero, List.drop_succ_cons, List.take_succ_cons, List.take_zero] at g0 g1
    obtain ⟨v0, rfl⟩ := cell_string g0
    obtain ⟨v1, rfl⟩ := cell_string g1
    exact ⟨⟨v0.data.toList, v1.data.toList⟩, by simp [Fl.cells, strV]⟩
theorem cell_lt {w : World} {a : Addr} {v : Value} (h : w.cell? a = some v) : a.block < w.heap.size := by
  unfold World.cell? at h
  rcases Nat.lt_or_ge a.block w.heap.size with hl | hl
  · exact hl
  · rw [Array.getElem?_eq_none hl] at h
    simp at h
theorem fCells_flat (rs : List Fl) : ∀ (j : Nat) u, (fCells rs)[j]? = some u → ∃ r, rs[j / 2]? = some r ∧ r.cells[j % 2]? = some u := by
  induction rs with
  | nil => intro j u h; simp [fCells] at h
  | cons r rs ih =>
    intro j u h
    rw [fCells, List.flatMap_cons, ← fCells] at h
    rcases Nat.lt_or_ge j 2 with hj | hj
    · rw [List.getElem?_append_left (by rw [Fl.len]; exact hj)] at h
      exact ⟨r, by rw [Nat.div_eq_of_lt hj]; rfl, by rw [Nat.mod_eq_of_lt hj]; exact h⟩
    · rw [List.getElem?_append_right (by rw [Fl.len]; exact hj), Fl.len] at h
      obtain ⟨x, h1, h2⟩ := ih _ _ h
      refine ⟨x, ?_, ?_⟩
      · rw [show j / 2 = (j - 2) / 2 + 1 by omega, List.getElem?_cons_succ]; exact h1
      · rw [show j % 2 = (j - 2) % 2 by omega]; exact h2
instance : Inhabited Fl := ⟨⟨[], []⟩⟩
theorem fields_trod {w : World} {base : Nat} {A : Option Addr} {len cap n : Nat} {x : DataW H × List MemPlace} (h : DataW.trod enc Tryd.prog w base spare held n 22 [.slice A len cap] = some x) (hm : len ≤ 1000000) :
    ∃ rs : List Fl, rs.length = len ∧ FsAt w A cap rs := by
  rcases Go.Deep.open_slice Tryd.underlying22 h with ⟨h0, _⟩ | ⟨a, l, c, m, k, D, Pl, h0, hb, hl, hc, hmm, _, hx⟩
  · simp at h0
    obtain ⟨rfl, rfl, rfl⟩ := h0
    exact ⟨[], rfl, FsAt.none_ w none 0⟩
  · simp at h0
    obtain ⟨rfl, rfl, rfl⟩ := h0
    have hlm : len ≤ m := by rw [hmm]; split <;> omega
    obtain ⟨R, hR⟩ := Go.Deep.choose_lt (α := Fl) (p := fun i r => w.cells? base (a.add (i * 2)) 2 = some r.cells) (fun i hi => by
      obtain ⟨cs', h1, h2⟩ := hx i hi
      rw [cells_field] at h1
      obtain ⟨r, rfl⟩ := field_trod h2
      exact ⟨r, h1⟩)
    refine ⟨(List.range len).map R, by simp, by simpa using hl, by simpa using hm, ?_, fun h => ?_⟩
    · rw [fCells_len]; omega
    · have h0 : 0 < len := by simpa using h
      refine ⟨a, rfl, ?_, ?_⟩
      · obtain ⟨_, _, h3⟩ := World.cells?_some (hR 0 (by omega))
        have := h3 0 (by omega)
        have h4 := cell_lt (this.trans (show (R 0).cells[0]? = some _ from rfl))
        simpa [Addr.add] using h4
      · intro j u hu
        obtain ⟨r, h1, h2⟩ := fCells_flat _ _ _ hu
        rw [List.getElem?_map] at h1
        have hj : j / 2 < len := by
          rcases Nat.lt_or_ge (j / 2) len with q | q
          · exact q
          · rw [List.getElem?_eq_none (by simpa using q)] at h1; simp at h1
        rw [List.getElem?_range hj] at h1
        simp at h1
        obtain ⟨_, _, h3⟩ := World.cells?_some (hR (j / 2) (by omega))
        have := h3 (j % 2) (by omega)
        rw [h1, h2] at this
        rw [show a.add j = (a.add (j / 2 * 2)).add (j % 2) by rw [Go.Deep.add_add]; congr 1; omega]
        exact this
instance : Inhabited ByteArray := ⟨ByteArray.empty⟩
theorem strs_trod {w : World} {base : Nat} {A : Option Addr} {len cap n : Nat} {x : DataW H × List MemPlace} (h : DataW.trod enc Tryd.prog w base spare held n 41 [.slice A len cap] = some x) :
    ∃ ss : List ByteArray, ss.length = len ∧ len ≤ cap ∧ Reads w w.heap.size 1 A len (ss.map Value.string) := by
  rcases Go.Deep.open_slice Tryd.underlying41 h with ⟨h0, _⟩ | ⟨a, l, c, m, k, D, Pl, h0, hb, hl, hc, hmm, _, hx⟩
  · simp at h0
    obtain ⟨rfl, rfl, rfl⟩ := h0
    exact ⟨[], rfl, Nat.le_refl _, Reads.none_⟩
  · simp at h0
    obtain ⟨rfl, rfl, rfl⟩ := h0
    have hlm : len ≤ m := by rw [hmm]; split <;> omega
    obtain ⟨R, hR⟩ := Go.Deep.choose_lt (α := ByteArray) (p := fun i r => w.cell? (a.add i) = some (.string r)) (fun i hi => by
      obtain ⟨cs', h1, h2⟩ := hx i hi
      rw [cells_string] at h1
      obtain ⟨_, hlen, h3⟩ := World.cells?_some h1
      match cs', hlen with
      | [c0], _ =>
        obtain ⟨v, rfl⟩ := cell_string h2
        have h4 := h3 0 (by omega)
        rw [Go.Deep.add_add] at h4
        refine ⟨v, ?_⟩
        simpa using h4)
    refine ⟨(List.range len).map R, by simp, by simpa using hl, ?_, fun h => ?_⟩
    · simp
    · have h0 : 0 < len := h
      refine ⟨a, rfl, ?_, ?_⟩
      · have := cell_lt (hR 0 (by omega))
        simpa [Addr.add] using this
      · intro j u hu
        rw [List.getElem?_map, List.getElem?_map] at hu
        have hj : j < len := by
          rcases Nat.lt_or_ge j len with q | q
          · exact q
          · rw [List.getElem?_eq_none (by simpa using q)] at hu; simp at hu
        rw [List.getElem?_range hj] at hu
        simp at hu
        rw [← hu]
        exact hR j (by omega)
end
end Go.Proofs.YtolfcpbcccbmmaaDoor

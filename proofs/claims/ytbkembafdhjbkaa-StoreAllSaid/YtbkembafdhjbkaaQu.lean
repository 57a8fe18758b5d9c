import Derived.Test.YtbkembafdhjbkaaQq
import Derived.Deep.Slices
import Derived.WalkKit
import Derived.ProofKit
set_option linter.unusedVariables false
namespace Go.Proofs.Ytbkembafdhjbkaa
open Go.RowKit Go.ChangeShapes Go.WideShapes Go.ChangeAt
section
variable {H : Type} {enc : TypeId × Value → H} {w : World} {base n : Nat} {spare : Nat → Bool} {held : Bool}
theorem cell_int {c : Value} {x : DataW H × List MemPlace} (h : DataW.trod enc Try.prog w base spare held n 3 [c] = some x) : ∃ v, c = .int .i64 v := by
  obtain ⟨v, hv, _⟩ := DataW.trod_int Try.underlying3 h
  injection hv with e _
  exact ⟨v, e⟩
theorem cell_bool {c : Value} {x : DataW H × List MemPlace} (h : DataW.trod enc Try.prog w base spare held n 4 [c] = some x) : ∃ v, c = .bool v := by
  obtain ⟨v, hv, _⟩ := DataW.trod_bool Try.underlying4 h
  injection hv with e _
  exact ⟨v, e⟩
theorem cell_string {c : Value} {x : DataW H × List MemPlace} (h : DataW.trod enc Try.prog w base spare held n 9 [c] = some x) : ∃ v, c = .string v := by
  obtain ⟨v, hv, _⟩ := DataW.trod_string Try.underlying9 h
  injection hv with e _
  exact ⟨v, e⟩
theorem cells_int : Try.prog.cellsOf 3 = 1 := by kernel_rfl
theorem cells_bool : Try.prog.cellsOf 4 = 1 := by kernel_rfl
theorem cells_string : Try.prog.cellsOf 9 = 1 := by kernel_rfl
theorem cells_want : Try.prog.cellsOf 30 = 7 := by kernel_rfl
theorem cells_rec : Try.prog.cellsOf 32 = 15 := by kernel_rfl
theorem some_of {α : Type} {l : List α} {i : Nat} (h : i < l.length) : ∃ x, l[i]? = some x := ⟨l[i], List.getElem?_eq_getElem h⟩
theorem want_trod {c0 c1 c2 c3 c4 c5 c6 : Value} {x : DataW H × List MemPlace} (h : DataW.trod enc Try.prog w base spare held n 30 [c0, c1, c2, c3, c4, c5, c6] = some x) :
    ∃ s0 s1 s2 s3 s4 s5 s6, c0 = .string s0 ∧ c1 = .string s1 ∧ c2 = .string s2 ∧ c3 = .string s3 ∧ c4 = .string s4 ∧ c5 = .string s5 ∧ c6 = .string s6 := by
  obtain ⟨xs, k, _, _, _, hl, hf⟩ := DataW.trod_struct Try.underlying30 h
  obtain ⟨x0, e0⟩ := some_of (l := xs) (i := 0) (by rw [hl]; decide)
  obtain ⟨x1, e1⟩ := some_of (l := xs) (i := 1) (by rw [hl]; decide)
  obtain ⟨x2, e2⟩ := some_of (l := xs) (i := 2) (by rw [hl]; decide)
  obtain ⟨x3, e3⟩ := some_of (l := xs) (i := 3) (by rw [hl]; decide)
  obtain ⟨x4, e4⟩ := some_of (l := xs) (i := 4) (by rw [hl]; decide)
  obtain ⟨x5, e5⟩ := some_of (l := xs) (i := 5) (by rw [hl]; decide)
  obtain ⟨x6, e6⟩ := some_of (l := xs) (i := 6) (by rw [hl]; decide)
  have g0 := (hf 0 _ rfl).trans e0
  have g1 := (hf 1 _ rfl).trans e1
  have g2 := (hf 2 _ rfl).trans e2
  have g3 := (hf 3 _ rfl).trans e3
  have g4 := (hf 4 _ rfl).trans e4
  have g5 := (hf 5 _ rfl).trans e5
  have g6 := (hf 6 _ rfl).trans e6
  simp only [List.getElem_toArray, List.getElem_cons_zero, List.getElem_cons_succ, cells_string, List.drop_zero, List.drop_succ_cons, List.take_succ_cons, List.take_zero] at g0 g1 g2 g3 g4 g5 g6
  obtain ⟨s0, h0⟩ := cell_string g0
  obtain ⟨s1, h1⟩ := cell_string g1
  obtain ⟨s2, h2⟩ := cell_string g2
  obtain ⟨s3, h3⟩ := cell_string g3
  obtain ⟨s4, h4⟩ := cell_string g4
  obtain ⟨s5, h5⟩ := cell_string g5
  obtain ⟨s6, h6⟩ := cell_string g6
  exact ⟨s0, s1, s2, s3, s4, s5, s6, h0, h1, h2, h3, h4, h5, h6⟩
theorem rec_trod {cs : List Value} {x : DataW H × List MemPlace} (h : DataW.trod enc Try.prog w base spare held n 32 cs = some x) : ∃ r : Rc, cs = r.cells := by
  obtain ⟨xs, k, _, _, hlen, hl, hf⟩ := DataW.trod_struct Try.underlying32 h
  rw [cells_rec] at hlen
  obtain ⟨x0, e0⟩ := some_of (l := xs) (i := 0) (by rw [hl]; decide)
  obtain ⟨x1, e1⟩ := some_of (l := xs) (i := 1) (by rw [hl]; decide)
  obtain ⟨x2, e2⟩ := some_of (l := xs) (i := 2) (by rw [hl]; decide)
  obtain ⟨x3, e3⟩ := some_of (l := xs) (i := 3) (by rw [hl]; decide)
  obtain ⟨x4, e4⟩ := some_of (l := xs) (i := 4) (by rw [hl]; decide)
  obtain ⟨x5, e5⟩ := some_of (l := xs) (i := 5) (by rw [hl]; decide)
  obtain ⟨x6, e6⟩ := some_of (l := xs) (i := 6) (by rw [hl]; decide)
  obtain ⟨x7, e7⟩ := some_of (l := xs) (i := 7) (by rw [hl]; decide)
  obtain ⟨x8, e8⟩ := some_of (l := xs) (i := 8) (by rw [hl]; decide)
  have g0 := (hf 0 _ rfl).trans e0
  have g1 := (hf 1 _ rfl).trans e1
  have g2 := (hf 2 _ rfl).trans e2
  have g3 := (hf 3 _ rfl).trans e3
  have g4 := (hf 4 _ rfl).trans e4
  have g5 := (hf 5 _ rfl).trans e5
  have g6 := (hf 6 _ rfl).trans e6
  have g7 := (hf 7 _ rfl).trans e7
  have g8 := (hf 8 _ rfl).trans e8
  clear hf e0 e1 e2 e3 e4 e5 e6 e7 e8
  match cs, hlen with
  | [c0, c1, c2, c3, c4, c5, c6, c7, c8, c9, c10, c11, c12, c13, c14], _ =>
    simp only [List.getElem_toArray, List.getElem_cons_zero, List.getElem_cons_succ, cells_int, cells_bool, cells_want, List.drop_zero, List.drop_succ_cons, List.take_succ_cons, List.take_zero] at g0 g1 g2 g3 g4 g5 g6 g7 g8
    obtain ⟨v0, rfl⟩ := cell_int g0
    obtain ⟨v1, rfl⟩ := cell_int g1
    obtain ⟨v2, rfl⟩ := cell_int g2
    obtain ⟨v3, rfl⟩ := cell_bool g3
    obtain ⟨v4, rfl⟩ := cell_int g4
    obtain ⟨v5, rfl⟩ := cell_int g5
    obtain ⟨v6, rfl⟩ := cell_int g6
    obtain ⟨v7, rfl⟩ := cell_int g7
    obtain ⟨s0, s1, s2, s3, s4, s5, s6, rfl, rfl, rfl, rfl, rfl, rfl, rfl⟩ := want_trod g8
    exact ⟨⟨v0, v1, v2, v3, v4, v5, v6, v7, s0, s1, s2, s3, s4, s5, s6⟩, rfl⟩
theorem cell_lt {w : World} {a : Addr} {v : Value} (h : w.cell? a = some v) : a.block < w.heap.size := by
  unfold World.cell? at h
  rcases Nat.lt_or_ge a.block w.heap.size with hl | hl
  · exact hl
  · rw [Array.getElem?_eq_none hl] at h
    simp at h
theorem recCells_flat (rs : List Rc) : ∀ (j : Nat) u, (recCells rs)[j]? = some u → ∃ r, rs[j / 15]? = some r ∧ r.cells[j % 15]? = some u := by
  induction rs with
  | nil => intro j u h; simp [recCells] at h
  | cons r rs ih =>
    intro j u h
    rw [recCells, List.flatMap_cons, ← recCells] at h
    rcases Nat.lt_or_ge j 15 with hj | hj
    · rw [List.getElem?_append_left (by rw [Rc.len]; exact hj)] at h
      exact ⟨r, by rw [Nat.div_eq_of_lt hj]; rfl, by rw [Nat.mod_eq_of_lt hj]; exact h⟩
    · rw [List.getElem?_append_right (by rw [Rc.len]; exact hj), Rc.len] at h
      obtain ⟨x, h1, h2⟩ := ih _ _ h
      refine ⟨x, ?_, ?_⟩
      · rw [show j / 15 = (j - 15) / 15 + 1 by omega, List.getElem?_cons_succ]; exact h1
      · rw [show j % 15 = (j - 15) % 15 by omega]; exact h2
instance : Inhabited Rc := ⟨Rc.none⟩
theorem recs_trod {w : World} {base : Nat} {A : Option Addr} {len cap n : Nat} {x : DataW H × List MemPlace} (h : DataW.trod enc Try.prog w base spare held n 24 [.slice A len cap] = some x) (hm : len ≤ 1000000) :
    ∃ rs : List Rc, rs.length = len ∧ RecsAt w A cap rs := by
  rcases Go.Deep.open_slice Try.underlying24 h with ⟨h0, _⟩ | ⟨a, l, c, m, k, D, Pl, h0, hb, hl, hc, hmm, _, hx⟩
  · simp at h0
    obtain ⟨rfl, rfl, rfl⟩ := h0
    exact ⟨[], rfl, recsAt_nil w⟩
  · simp at h0
    obtain ⟨rfl, rfl, rfl⟩ := h0
    have hlm : len ≤ m := by rw [hmm]; split <;> omega
    obtain ⟨R, hR⟩ := Go.Deep.choose_lt (α := Rc) (p := fun i r => w.cells? base (a.add (i * 15)) 15 = some r.cells) (fun i hi => by
      obtain ⟨cs', h1, h2⟩ := hx i hi
      rw [cells_rec] at h1
      obtain ⟨r, rfl⟩ := rec_trod h2
      exact ⟨r, h1⟩)
    refine ⟨(List.range len).map R, by simp, by simpa using hl, by simpa using hm, ?_, fun h => ?_⟩
    · rw [recCells_len]; omega
    · have h0 : 0 < len := by simpa using h
      refine ⟨a, rfl, ?_, ?_⟩
      · obtain ⟨_, _, h3⟩ := World.cells?_some (hR 0 (by omega))
        have := h3 0 (by omega)
        have h4 := cell_lt (this.trans (show (R 0).cells[0]? = some _ from rfl))
        simpa [Addr.add] using h4
      · intro j u hu
        obtain ⟨r, h1, h2⟩ := recCells_flat _ _ _ hu
        rw [List.getElem?_map] at h1
        have hj : j / 15 < len := by
          rcases Nat.lt_or_ge (j / 15) len with q | q
          · exact q
          · rw [List.getElem?_eq_none (by simpa using q)] at h1; simp at h1
        rw [List.getElem?_range hj] at h1
        simp at h1
        obtain ⟨_, _, h3⟩ := World.cells?_some (hR (j / 15) (by omega))
        have := h3 (j % 15) (by omega)
        rw [h1, h2] at this
        rw [show a.add j = (a.add (j / 15 * 15)).add (j % 15) by rw [Go.Deep.add_add]; congr 1; omega]
        exact this
end
end Go.Proofs.Ytbkembafdhjbkaa
